/- Parts of the proof of the law; no condition. -/
import Derived.Test.YtcnfmabhghhdnaaGreatA37
import Derived.Test.YtcnfmabhghhdnaaGreatA46
import Derived.Test.YtcnfmabhghhdnaaGreatA48
set_option linter.all false
section
namespace Go.Proofs.YtcnfmabhghhdnaaGreat
open Go.RowKit Go.IntWalk
namespace T
theorem tot_len (w:DWorld) (ps:List DPlan):totalF w ps=totG (endF w) ps ps.length:=rfl
theorem tot_w {w:DWorld} {ps:List DPlan} (hl:ps.length≤1000) {j:Nat} (hj:j<ps.length):IntKind.i64.wrap (totG (endF w) ps j+(endP w (ps.getD j dPlan)).1)=totG (endF w) ps (j+1):=by
 have h1:=tot_rng (end_rng w) ps j;have h2:=end_rng w (ps.getD j dPlan);refine (i64_in _ ?_).trans rfl;unfold endF at h2;omega
def entSwS:Ent:=⟨31,.cons Z24 (.cons Z22 .nil),(.int .i64),false,none,fun x=>List.length (α:=DPlan) x.2.1≤1000∧∀p∈(x.2.1:List DPlan),p.2.1.length≤24,fun x=>totalF x.1 x.2.1⟩
def csSwS:List Ent:=[entEnd] theorem hcsSwS (f:FuncId):findEnt csSwS f=findEnt [entEnd] f:=rfl
theorem conSwS:Con Tryz.prog entSwS:=by
 refine con_is (C:=csSwS) x31 (by kernel_rfl) (by simp[csSwS,conEnd]) fun x hx hf=>?_;obtain ⟨⟨(N:Int),(A:List DArc),(C:List DCar),(Q:List DReq),(P:List DPair),(S1:Int),(S2:Int),(S3:Int)⟩,(ps:List DPlan),_⟩:=x;obtain ⟨hl,hx⟩:ps.length≤1000∧∀p∈ps,p.2.1.length≤24:=hx;dsimp only[entSwS,x31,Za,Zb,Zg];simp only[↓hcsSwS,entEnd,undef,go_sem];try simp only[td,reduceCtorEq]
 refine XW_for 1000 x31_0d [0] Nat (fun j=>[(12,.val Z1 (j:Int)),(5,.val Z1 (totG (endF (N,A,C,Q,P,S1,S2,S3)) ps j))]) (fun _=>[]) (fun j=>j≤ps.length) (fun j=>ps.length-j) 0 ?_ ?_ ?_
 ·dsimp only[x31_0d];simp only[go_sem];try exact ⟨rfl,rfl⟩
 ·exact Nat.zero_le _
 intro j hj;dsimp only[x31_0,x31_0d,Z13,Z24,Za,Zb,Zd,Zg];by_cases hj':j<ps.length
 ·have w2:IntKind.i64.wrap ((j:Int)+1)=((j+1:Nat):Int):=i64_in _ (by omega);have hb:=hx (ps.getD j dPlan) (by simp[List.getD,hj']);have hw:=tot_w (w:=(N,A,C,Q,P,S1,S2,S3)) hl hj';dsimp only[dPlan] at hb hw;simp only[↓hcsSwS,entEnd,undef,hj',w2,hb,hw,go_sem];try simp only[hj',w2,hb,hw,td,reduceCtorEq]
  exact ⟨j+1,by omega,by omega,rfl,rfl⟩
 ·obtain rfl:j=ps.length:=by omega
  simp only[↓hcsSwS,entEnd,undef,hj',←tot_len,go_sem];try simp only[hj',←tot_len,td,reduceCtorEq]
def entTtR:Ent:=⟨32,.cons Z24 (.cons Z22 .nil),(.int .i64),false,none,fun x=>List.length (α:=DPlan) x.2.1≤1000∧∀p∈(x.2.1:List DPlan),p.2.1.length≤24,fun x=>totalF x.1 x.2.1⟩
def csTtR:List Ent:=[entEnR] theorem hcsTtR (f:FuncId):findEnt csTtR f=findEnt [entEnR] f:=rfl
theorem conTtR:Con Tryz.prog entTtR:=by
 refine con_is (C:=csTtR) x32 (by kernel_rfl) (by simp[csTtR,conEnR]) fun x hx hf=>?_;obtain ⟨⟨(N:Int),(A:List DArc),(C:List DCar),(Q:List DReq),(P:List DPair),(S1:Int),(S2:Int),(S3:Int)⟩,(ps:List DPlan),_⟩:=x;obtain ⟨hl,hx⟩:ps.length≤1000∧∀p∈ps,p.2.1.length≤24:=hx;dsimp only[entTtR,x32,Zb,Zg];simp only[↓hcsTtR,entEnR,undef,go_sem];try simp only[td,reduceCtorEq]
 refine XW_for 1000 x32_0d [0] Nat (fun j=>[(6,.val Z1 (j:Int)),(5,.val Z1 (totG (endF (N,A,C,Q,P,S1,S2,S3)) ps j))]) (fun _=>[]) (fun j=>j≤ps.length) (fun j=>ps.length-j) 0 ?_ ?_ ?_
 ·dsimp only[x32_0d];simp only[go_sem];try exact ⟨rfl,rfl⟩
 ·exact Nat.zero_le _
 intro j hj;dsimp only[x32_0,x32_0d,Z13,Z24,Za,Zb,Zc,Zf,Zg];by_cases hj':j<ps.length
 ·have w2:IntKind.i64.wrap ((j:Int)+1)=((j+1:Nat):Int):=i64_in _ (by omega);have hb:=hx (ps.getD j dPlan) (by simp[List.getD,hj']);have hw:=tot_w (w:=(N,A,C,Q,P,S1,S2,S3)) hl hj';dsimp only[dPlan] at hb hw;simp only[↓hcsTtR,entEnR,undef,hj',w2,hb,hw,go_sem];try simp only[hj',w2,hb,hw,td,reduceCtorEq]
  exact ⟨j+1,by omega,by omega,rfl,rfl⟩
 ·obtain rfl:j=ps.length:=by omega
  simp only[↓hcsTtR,entEnR,undef,hj',←tot_len,go_sem];try simp only[hj',←tot_len,td,reduceCtorEq]
def entSTy:Ent:=⟨10,.cons Z24 (.cons Z22 (.cons Z21 .nil)),.cons Z22 (.cons Z1 .nil),true,none,fun x=>(List.length (α:=DReq) (x.1:DWorld).2.2.2.1≤10∧List.length (α:=DPlan) x.2.1≤1000)∧∀p∈(x.2.1:List DPlan),p.2.1.length≤24∧p.2.2.1.length≤1000000∧p.2.2.2.length≤1000000,fun x=>((tryF x.1 x.2.1 x.2.2.1).1,(tryF x.1 x.2.1 x.2.2.1).2,())⟩
def csSTy:List Ent:=[entSwR,entSwT] theorem hcsSTy (f:FuncId):findEnt csSTy f=findEnt [entSwR,entSwT] f:=rfl
theorem conSTy:Con Tryz.prog entSTy:=by
 refine con_is (C:=csSTy) x10 (by kernel_rfl) (by simp[csSTy,conSwR,conSwT]) fun x hx hf=>?_;obtain ⟨⟨(N:Int),(A:List DArc),(C:List DCar),(Q:List DReq),(P:List DPair),(S1:Int),(S2:Int),(S3:Int)⟩,(ps:List DPlan),⟨(r:Int),(f:Int),(t:Int),(p:Int),(d:Int)⟩,_⟩:=x;obtain ⟨⟨hq,hl⟩,hx⟩:(Q.length≤10∧ps.length≤1000)∧∀p∈ps,p.2.1.length≤24∧p.2.2.1.length≤1000000∧p.2.2.2.length≤1000000:=hx;have h1:∀p∈ps,p.2.1.length≤24:=fun p hp=>(hx p hp).1;have h2:∀p∈ps,p.2.2.1.length≤1000000∧p.2.2.2.length≤1000000:=fun p hp=>(hx p hp).2;have h3:∀p∈ps,p.2.1.length≤900:=fun p hp=>by have:=h1 p hp;omega
 have hF:tryF (N,A,C,Q,P,S1,S2,S3) ps (r,f,t,p,d)=if rightPs (N,A,C,Q,P,S1,S2,S3) ps=true then movedF (N,A,C,Q,P,S1,S2,S3) ps (r,f,t,p,d) else ([],1):=rfl
 have hi:=rightPs_iff (w:=(N,A,C,Q,P,S1,S2,S3)) (ps:=ps);clear hx;dsimp only[entSTy,x10,Z13,Z21,Z24,Za,Zb,Zd,Zg];cases hr:rightPs (N,A,C,Q,P,S1,S2,S3) ps with
 |true=>
  have h4:=hi.1 hr;rw[if_pos hr] at hF;simp only[↓hcsSTy,entSwR,entSwT,undef,hF,hr,h1,h2,h3,h4,hq,hl,go_sem];try simp only[hF,hr,h1,h2,h3,h4,hq,hl,td,reduceCtorEq]
  all_goals first|done|exact h1|exact h2|exact h3|exact ⟨h1,h2⟩|exact ⟨h1,h3⟩
 |false=>
  rw[if_neg (by rw[hr];decide)] at hF;simp only[↓hcsSTy,entSwR,entSwT,undef,hF,hr,h1,h2,h3,hq,hl,go_sem];try simp only[hF,hr,h1,h2,h3,hq,hl,td,reduceCtorEq]
  all_goals first|done|exact h1|exact h2|exact h3
def entRTy:Ent:=⟨11,.cons Z24 (.cons Z22 (.cons Z21 .nil)),.cons Z22 (.cons Z1 .nil),true,none,fun x=>(List.length (α:=DReq) (x.1:DWorld).2.2.2.1≤10∧List.length (α:=DPlan) x.2.1≤1000)∧∀p∈(x.2.1:List DPlan),p.2.1.length≤24∧p.2.2.1.length≤1000000∧p.2.2.2.length≤1000000,fun x=>((tryF x.1 x.2.1 x.2.2.1).1,(tryF x.1 x.2.1 x.2.2.1).2,())⟩
def csRTy:List Ent:=[entRgR,entMvR] theorem hcsRTy (f:FuncId):findEnt csRTy f=findEnt [entRgR,entMvR] f:=rfl
theorem conRTy:Con Tryz.prog entRTy:=by
 refine con_is (C:=csRTy) x11 (by kernel_rfl) (by simp[csRTy,conRgR,conMvR]) fun x hx hf=>?_;obtain ⟨⟨(N:Int),(A:List DArc),(C:List DCar),(Q:List DReq),(P:List DPair),(S1:Int),(S2:Int),(S3:Int)⟩,(ps:List DPlan),⟨(r:Int),(f:Int),(t:Int),(p:Int),(d:Int)⟩,_⟩:=x;obtain ⟨⟨hq,hl⟩,hx⟩:(Q.length≤10∧ps.length≤1000)∧∀p∈ps,p.2.1.length≤24∧p.2.2.1.length≤1000000∧p.2.2.2.length≤1000000:=hx;have h1:∀p∈ps,p.2.1.length≤24:=fun p hp=>(hx p hp).1;have h2:∀p∈ps,p.2.2.1.length≤1000000∧p.2.2.2.length≤1000000:=fun p hp=>(hx p hp).2;have h3:∀p∈ps,p.2.1.length≤900:=fun p hp=>by have:=h1 p hp;omega
 have hF:tryF (N,A,C,Q,P,S1,S2,S3) ps (r,f,t,p,d)=if rightPs (N,A,C,Q,P,S1,S2,S3) ps=true then movedF (N,A,C,Q,P,S1,S2,S3) ps (r,f,t,p,d) else ([],1):=rfl
 have hi:=rightPs_iff (w:=(N,A,C,Q,P,S1,S2,S3)) (ps:=ps);clear hx;dsimp only[entRTy,x11,Z13,Z21,Z24,Za,Zb,Zd,Zg];cases hr:rightPs (N,A,C,Q,P,S1,S2,S3) ps with
 |true=>
  have h4:=hi.1 hr;rw[if_pos hr] at hF;simp only[↓hcsRTy,entRgR,entMvR,undef,hF,hr,h1,h2,h3,h4,hq,hl,go_sem];try simp only[hF,hr,h1,h2,h3,h4,hq,hl,td,reduceCtorEq]
  all_goals first|done|exact h1|exact h2|exact h3|exact ⟨h1,h2⟩|exact ⟨h1,h3⟩
 |false=>
  rw[if_neg (by rw[hr];decide)] at hF;simp only[↓hcsRTy,entRgR,entMvR,undef,hF,hr,h1,h2,h3,hq,hl,go_sem];try simp only[hF,hr,h1,h2,h3,hq,hl,td,reduceCtorEq]
  all_goals first|done|exact h1|exact h2|exact h3
def entSSm:Ent:=⟨12,.cons Z24 (.cons Z22 .nil),.cons Z1 (.cons .bool .nil),true,none,fun x=>List.length (α:=DPlan) x.2.1≤1000∧∀p∈(x.2.1:List DPlan),p.2.1.length≤24,fun x=>((sumF x.1 x.2.1).1,(sumF x.1 x.2.1).2,())⟩
def csSSm:List Ent:=[entSwR,entSwS] theorem hcsSSm (f:FuncId):findEnt csSSm f=findEnt [entSwR,entSwS] f:=rfl
theorem conSSm:Con Tryz.prog entSSm:=by
 refine con_is (C:=csSSm) x12 (by kernel_rfl) (by simp[csSSm,conSwR,conSwS]) fun x hx hf=>?_;obtain ⟨⟨(N:Int),(A:List DArc),(C:List DCar),(Q:List DReq),(P:List DPair),(S1:Int),(S2:Int),(S3:Int)⟩,(ps:List DPlan),_⟩:=x;obtain ⟨hl,h1⟩:ps.length≤1000∧∀p∈ps,p.2.1.length≤24:=hx;have hF:sumF (N,A,C,Q,P,S1,S2,S3) ps=if rightPs (N,A,C,Q,P,S1,S2,S3) ps=true then (totalF (N,A,C,Q,P,S1,S2,S3) ps,true) else (0,false):=rfl
 dsimp only[entSSm,x12,Z24,Za,Zb,Zg];cases hr:rightPs (N,A,C,Q,P,S1,S2,S3) ps with
 |true=>
  rw[if_pos hr] at hF;simp only[↓hcsSSm,entSwR,entSwS,undef,hF,hr,h1,hl,go_sem];try simp only[hF,hr,h1,hl,td,reduceCtorEq]
  all_goals first|done|exact h1
 |false=>
  rw[if_neg (by rw[hr];decide)] at hF;simp only[↓hcsSSm,entSwR,entSwS,undef,hF,hr,h1,hl,go_sem];try simp only[hF,hr,h1,hl,td,reduceCtorEq]
  all_goals first|done|exact h1
def entRSm:Ent:=⟨13,.cons Z24 (.cons Z22 .nil),.cons Z1 (.cons .bool .nil),true,none,fun x=>List.length (α:=DPlan) x.2.1≤1000∧∀p∈(x.2.1:List DPlan),p.2.1.length≤24,fun x=>((sumF x.1 x.2.1).1,(sumF x.1 x.2.1).2,())⟩
def csRSm:List Ent:=[entRgR,entTtR] theorem hcsRSm (f:FuncId):findEnt csRSm f=findEnt [entRgR,entTtR] f:=rfl
theorem conRSm:Con Tryz.prog entRSm:=by
 refine con_is (C:=csRSm) x13 (by kernel_rfl) (by simp[csRSm,conRgR,conTtR]) fun x hx hf=>?_;obtain ⟨⟨(N:Int),(A:List DArc),(C:List DCar),(Q:List DReq),(P:List DPair),(S1:Int),(S2:Int),(S3:Int)⟩,(ps:List DPlan),_⟩:=x;obtain ⟨hl,h1⟩:ps.length≤1000∧∀p∈ps,p.2.1.length≤24:=hx;have hF:sumF (N,A,C,Q,P,S1,S2,S3) ps=if rightPs (N,A,C,Q,P,S1,S2,S3) ps=true then (totalF (N,A,C,Q,P,S1,S2,S3) ps,true) else (0,false):=rfl
 dsimp only[entRSm,x13,Z24,Za,Zb,Zg];cases hr:rightPs (N,A,C,Q,P,S1,S2,S3) ps with
 |true=>
  rw[if_pos hr] at hF;simp only[↓hcsRSm,entRgR,entTtR,undef,hF,hr,h1,hl,go_sem];try simp only[hF,hr,h1,hl,td,reduceCtorEq]
  all_goals first|done|exact h1
 |false=>
  rw[if_neg (by rw[hr];decide)] at hF;simp only[↓hcsRSm,entRgR,entTtR,undef,hF,hr,h1,hl,go_sem];try simp only[hF,hr,h1,hl,td,reduceCtorEq]
  all_goals first|done|exact h1
end T
end Go.Proofs.YtcnfmabhghhdnaaGreat
end
