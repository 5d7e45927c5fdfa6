/- Parts of the proof of the law; no condition. -/
import Derived.Test.YtcnfmabhghhdnaaGreatA49
set_option linter.all false
section
namespace Go.Proofs.YtcnfmabhghhdnaaGreat
open Go.RowKit Go.IntWalk
namespace T
def optAV (t:Ty):Option (List t.den)→AV
 |none=>.cst (.slice none 0 0)
 |some x=>.val (.sl t) x
theorem optAV_none (t:Ty):optAV t none= .cst (.slice none 0 0):=rfl
theorem optAV_some (t:Ty) (x:List t.den):optAV t (some x)= .val (.sl t) x:=rfl
theorem optAV_locs (t:Ty) (o:Option (List t.den)):(optAV t o).locs=[]:=by cases o<;>simp[optAV,AV.locs]
theorem optAV_ren (t:Ty) (o:Option (List t.den)) (y:AV):ren1 (optAV t o) y=[]:=by cases o<;>simp[optAV,ren1]
theorem optAV_le (ρ:List (Nat×Nat)) (hp:Hp) (t:Ty) (o:Option (List t.den)):avle ρ hp (optAV t o) (optAV t o)=True:=by cases o<;>simp[optAV,avle,rd,rd1,disj,cast?_self]
theorem optP_none:optAV (.st (.cons (.int .i64) (.cons (.sl (.st (.cons (.int .i64) .bool))) (.cons (.sl (.st (.cons (.int .i64) (.int .i64)))) (.sl (.int .i64)))))) (none:Option (List DPlan))= .cst (.slice none 0 0):=rfl
theorem optP_some (x:List DPlan):optAV (.st (.cons (.int .i64) (.cons (.sl (.st (.cons (.int .i64) .bool))) (.cons (.sl (.st (.cons (.int .i64) (.int .i64)))) (.sl (.int .i64)))))) (some x:Option (List DPlan))= .val (.sl (.st (.cons (.int .i64) (.cons (.sl (.st (.cons (.int .i64) .bool))) (.cons (.sl (.st (.cons (.int .i64) (.int .i64)))) (.sl (.int .i64))))))) x:=rfl
def byM:Option (DMove×List DPlan)→DMove
 |none=>dMove
 |some x=>x.1
theorem byM_none:byM none=(0,0,0,0,0):=rfl
theorem byM_some (m:DMove) (l:List DPlan):byM (some (m,l))=m:=rfl
def entMv1:Ent:=⟨63,.cons Z13 (.cons (.ptr (.int .i64)) .nil),.bool,false,none,fun _=>True,fun x=>decide ((x.2.1,true)∈(x.1:DPlan).2.1)⟩
def csMv1:List Ent:=[entPks] theorem hcsMv1 (f:FuncId):findEnt csMv1 f=findEnt [entPks] f:=rfl
theorem conMv1:Con Tryz.prog entMv1:=by
 refine con_is (C:=csMv1) x63 (by kernel_rfl) (by simp[csMv1,conPks]) fun x hx hf=>?_;obtain ⟨⟨(c:Int),(ss:List DStop),(L:List DLeg),(G:List Int)⟩,(m:Int),_⟩:=x;dsimp only[entMv1,x63,Z1,Z12,Zb,Zg];simp only[↓hcsMv1,entPks,undef,go_sem];try simp only[td,reduceCtorEq]
def entIdxFuncPln:Ent:=⟨62,.cons Z22 (.cons (.fn Z13 .bool) .nil),(.int .i64),false,none,fun _=>True,fun x=>idxF x.2.1 x.1⟩
theorem conIdxFuncPln:Con Tryz.prog entIdxFuncPln:=by
 refine con_is (C:=[]) x62 (by kernel_rfl) (by simp) fun x _ hf=>?_;obtain ⟨(xs:List DPlan),(p:DPlan→Bool),_⟩:=x;have hl:xs.length≤maxLen:=hf.1.1;dsimp only[entIdxFuncPln,x62,Zb,Zg];simp only[go_sem];refine XW_for 1000 x62_0d [] Nat (fun k=>[(8,.val Z1 (k:Int))]) (fun _=>[]) (fun k=>k≤xs.length∧∀j,j<k→p (xs.getD j (0,[],[],[]))=false) (fun k=>xs.length-k) 0 ?_ ?_ ?_
 ·dsimp only[x62_0d];simp only[go_sem];rfl
 ·exact ⟨by omega,fun j hj=>by omega⟩
 ·intro k hk;dsimp only[x62_0,x62_0d,Z13,Za,Zb,Zg];simp only[go_sem];dsimp only[maxLen] at hl;by_cases hkl:k<xs.length
  ·simp only[hkl,td,reduceCtorEq];refine ⟨fun h=>(idxF_at hkl hk.2 h).symm,fun h=>⟨k+1,by omega,⟨by omega,fun j hj=>?_⟩,i64_in _ (by omega)⟩⟩;rcases Nat.lt_succ_iff_lt_or_eq.1 hj with h'|rfl
   ·exact hk.2 j h'
   ·exact h
  ·simp only[hkl,td,reduceCtorEq];exact (idxF_none fun j hj=>hk.2 j (by omega)).symm
def entImp:Ent:=⟨14,.cons Z24 (.cons Z22 .nil),.cons Z22 (.cons Z27 (.cons Z1 .nil)),true,none,fun x=>(List.length (α:=DReq) (x.1:DWorld).2.2.2.1≤10∧List.length (α:=DPlan) x.2.1≤1000)∧∀p∈(x.2.1:List DPlan),p.2.1.length≤24∧p.2.2.1.length≤1000000∧p.2.2.2.length≤1000000,fun x=>((improveF x.1 x.2.1).1,(improveF x.1 x.2.1).2.1,(improveF x.1 x.2.1).2.2,())⟩
def csImp:List Ent:=[entSwR,entFrs,entSwS,entSwT,entMv1,entIdxFuncPln,entWo] theorem hcsImp (f:FuncId):findEnt csImp f=findEnt [entSwR,entFrs,entSwS,entSwT,entMv1,entIdxFuncPln,entWo] f:=rfl
set_option maxHeartbeats 8000000 in
theorem conImp:Con Tryz.prog entImp:=by
 refine con_is (C:=csImp) x14 (by kernel_rfl) (by simp[csImp,conSwR,conFrs,conSwS,conSwT,conMv1,conIdxFuncPln,conWo]) fun x hx hf=>?_;obtain ⟨⟨(N:Int),(A:List DArc),(C:List DCar),(Q:List DReq),(P:List DPair),(S1:Int),(S2:Int),(S3:Int)⟩,(ps:List DPlan),_⟩:=x;obtain ⟨⟨hq,hl⟩,hx⟩:(Q.length≤10∧ps.length≤1000)∧∀p∈ps,p.2.1.length≤24∧p.2.2.1.length≤1000000∧p.2.2.2.length≤1000000:=hx;have h1:∀p∈ps,p.2.1.length≤24:=fun p hp=>(hx p hp).1;have h2:∀p∈ps,p.2.1.length≤1000000∧p.2.2.1.length≤1000000∧p.2.2.2.length≤1000000:=fun p hp=>by have:=hx p hp;omega
 have hl6:ps.length≤1000000:=by omega
 have hF:improveF (N,A,C,Q,P,S1,S2,S3) ps=if rightPs (N,A,C,Q,P,S1,S2,S3) ps=true then impF (N,A,C,Q,P,S1,S2,S3) 101 ps [] else ([],[],1):=rfl
 have hi:=rightPs_iff (w:=(N,A,C,Q,P,S1,S2,S3)) (ps:=ps);clear hx;dsimp only[entImp,x14,Z1,Z13,Z21,Z22,Z24,Za,Zb,Zf,Zg];cases hr:rightPs (N,A,C,Q,P,S1,S2,S3) ps with
 |false=>
  rw[if_neg (by rw[hr];decide)] at hF;simp only[↓hcsImp,entSwR,entFrs,entSwS,entSwT,entMv1,entIdxFuncPln,entWo,undef,hF,hr,h1,go_sem];try simp only[hF,hr,h1,td,reduceCtorEq]
  all_goals first|done|exact h1
 |true=>
 have hR:=hi.1 hr;rw[if_pos hr] at hF;rw[hF];simp only[↓hcsImp,entSwR,entFrs,entSwS,entSwT,entMv1,entIdxFuncPln,entWo,undef,hr,h1,h2,hl,hl6,go_sem];try simp only[hr,h1,h2,hl,hl6,td,reduceCtorEq]
 obtain ⟨F,hFF⟩:∃F,impF (N,A,C,Q,P,S1,S2,S3) 101 ps []=F:=⟨_,rfl⟩;rw[hFF];refine ⟨h1,⟨h2,h1⟩,?_⟩;refine XW_for 1000 x14_0d [0] (List DPlan×List DMove) (fun s=>[(9,.own 17)]) (fun s=>[(13,.box 30 [.val Z22 s.1]),(14,.box 3 [.val Z1 (totalF (N,A,C,Q,P,S1,S2,S3) s.1)]),(17,.row 32 Z21 s.2)])
  (fun s=>RightPs (N,A,C,Q,P,S1,S2,S3) s.1∧s.1.length≤1000∧s.2.length≤100∧impF (N,A,C,Q,P,S1,S2,S3) (101-s.2.length) s.1 s.2=F) (fun s=>101-s.2.length) (ps,[]) ?_ ?_ ?_
 ·dsimp only[x14_0d];simp only[go_sem];first|done|exact ⟨rfl,rfl⟩|rfl
 ·exact ⟨hR,hl,by simp,hFF⟩
 clear hFF hR hr h1 h2 hl hl6 hi hF;rintro ⟨now,made⟩ ⟨hR,hl,hm,hFF⟩;dsimp only at hR hl hm hFF;have hln:=hR.lens hq;have hp2:∀p∈now,p.2.2.1.length≤1000000∧p.2.2.2.length≤1000000:=fun p hp=>by have:=hln p hp;omega
 have hmv:∀m,(movedF (N,A,C,Q,P,S1,S2,S3) now m).2=0→(movedF (N,A,C,Q,P,S1,S2,S3) now m).1≠[]∧(movedF (N,A,C,Q,P,S1,S2,S3) now m).1.length≤1000∧∀p∈(movedF (N,A,C,Q,P,S1,S2,S3) now m).1,p.2.1.length≤24:=fun m h=>by
  have h1:=moved_right hR h;obtain ⟨f,t,p,d,_,hP⟩:=moved_has hR h;have h2:=hP.len;have h3:=hP.hf;exact ⟨fun z=>by rw[z] at h2;simp at h2;omega,by omega,fun p hp=>by have:=h1.lens hq p hp;omega⟩
 obtain ⟨B0,b00,b01,b02⟩:=foS_0 (N,A,C,Q,P,S1,S2,S3) now;dsimp only at b02;dsimp only[x14_0,x14_0d,x34,Z13,Z21,Z22,Z24,Z7,Za,Zb,Zc,Zd,Zf,Zg];simp only[↓hcsImp,entSwR,entFrs,entSwS,entSwT,entMv1,entIdxFuncPln,entWo,undef,go_sem];try simp only[td,reduceCtorEq]
 refine XW_for 2000 x34_0d [0,13,17,1005] Nat (fun r=>[(15,.val Z1 (r:Int))]) (fun r=>[(1000,.box 30 [optAV Z13 ((B0 r).1.map fun x=>x.2)]),(1001,.box 32 [.val Z1 (byM (B0 r).1).1,.val Z1 (byM (B0 r).1).2.1,.val Z1 (byM (B0 r).1).2.2.1,.val Z1 (byM (B0 r).1).2.2.2.1,.val Z1 (byM (B0 r).1).2.2.2.2]),(14,.box 3 [.val Z1 (B0 r).2])]) (fun r=>r≤Q.length) (fun r=>Q.length-r) 0 ?_ ?_ ?_
 ·dsimp only[x34_0d];simp only[b00,optAV_none,optAV_some,optP_none,optP_some,optAV_locs,optAV_ren,optAV_le,byM_none,byM_some,go_sem];first|done|trivial|exact ⟨rfl,rfl⟩|rfl
 ·exact Nat.zero_le _
 intro r hr;dsimp only[x34_0,x34_0d,Z1,Za,Zb,Zg];by_cases hr':r<Q.length
 case neg=>
  obtain rfl:r=Q.length:=by omega
  rw[b02];obtain ⟨k,hk⟩:∃k,101-made.length=k+1:=⟨100-made.length,by omega⟩;rw[hk] at hFF;have hst:impF (N,A,C,Q,P,S1,S2,S3) (k+1) now made=match (scanF (N,A,C,Q,P,S1,S2,S3) now).1 with
   |none=>(now,made,0)
   |some x=>impF (N,A,C,Q,P,S1,S2,S3) k x.2 (made++[x.1]):=rfl
  cases hs:(scanF (N,A,C,Q,P,S1,S2,S3) now).1 with
  |none=>
   rw[hs] at hst;dsimp only at hst;rw[hst] at hFF;rw[←hFF];simp only[↓hcsImp,entSwR,entFrs,entSwS,entSwT,entMv1,entIdxFuncPln,entWo,undef,hr',hs,optAV_none,optAV_some,optP_none,optP_some,optAV_locs,optAV_ren,optAV_le,byM_none,byM_some,go_sem];try simp only[hr',hs,optAV_none,optAV_some,optP_none,optP_some,optAV_locs,optAV_ren,optAV_le,byM_none,byM_some,td,reduceCtorEq]
  |some x=>
   obtain ⟨⟨q1,q2,q3,q4,q5⟩,nx⟩:=x;rw[hs] at hst;dsimp only at hst;rw[hst] at hFF;obtain ⟨e1,e2,e3,e4,_⟩:=scan_some hs;obtain ⟨m1,m2,m3⟩:=hmv _ e2;have m4:=moved_right hR e2;rw[←e1] at m1 m2 m4;rw[e4];have hb:(made.length+1)*40≤140737488355328:=by omega
   by_cases hm1:made.length=100
   ·have hmi:(made.length:Int)=100:=by omega
    obtain rfl:k=0:=by omega
    have hFF:([],[],6)=F:=hFF;rw[←hFF];simp only[↓hcsImp,entSwR,entFrs,entSwS,entSwT,entMv1,entIdxFuncPln,entWo,undef,hr',m1,hm1,hmi,optAV_none,optAV_some,optP_none,optP_some,optAV_locs,optAV_ren,optAV_le,byM_none,byM_some,go_sem];try simp only[hr',m1,hm1,hmi,optAV_none,optAV_some,optP_none,optP_some,optAV_locs,optAV_ren,optAV_le,byM_none,byM_some,td,reduceCtorEq]
    exact fun z=>absurd rfl z
   ·have hmi:¬(made.length:Int)=100:=by omega
    simp only[↓hcsImp,entSwR,entFrs,entSwS,entSwT,entMv1,entIdxFuncPln,entWo,undef,hr',m1,hm1,hmi,hb,optAV_none,optAV_some,optP_none,optP_some,optAV_locs,optAV_ren,optAV_le,byM_none,byM_some,go_sem];try simp only[hr',m1,hm1,hmi,hb,optAV_none,optAV_some,optP_none,optP_some,optAV_locs,optAV_ren,optAV_le,byM_none,byM_some,td,reduceCtorEq]
    refine ⟨(nx,made++[(q1,q2,q3,q4,q5)]),?_,⟨m4,m2,?_,?_⟩,?_⟩
    ·dsimp only;rw[List.length_append,List.length_singleton];omega
    ·dsimp only;rw[List.length_append,List.length_singleton];omega
    ·dsimp only;rw[List.length_append,List.length_singleton,show 101-(made.length+1)=k by omega];exact hFF
    ·first|exact ⟨rfl,rfl,rfl⟩|exact ⟨rfl,rfl⟩|rfl
 have wr:IntKind.i64.wrap ((r:Int)+1)=((r+1:Nat):Int):=i64_in _ (by omega);have b01:=b01 r;obtain ⟨f,hfr⟩:∃f,idxF (fun x:DPlan=>decide (((r:Int),true)∈x.2.1)) now=f:=⟨_,rfl⟩;have hff:fromF now r=f:=hfr;rw[hff] at b01;by_cases hf0:f<0
 ·rw[if_pos hf0] at b01;simp only[↓hcsImp,entSwR,entFrs,entSwS,entSwT,entMv1,entIdxFuncPln,entWo,undef,hr',wr,hfr,hf0,optAV_none,optAV_some,optP_none,optP_some,optAV_locs,optAV_ren,optAV_le,byM_none,byM_some,go_sem];try simp only[hr',wr,hfr,hf0,optAV_none,optAV_some,optP_none,optP_some,optAV_locs,optAV_ren,optAV_le,byM_none,byM_some,td,reduceCtorEq]
  refine ⟨r+1,by omega,by omega,?_⟩;rw[b01];simp only[optAV_none,optAV_some,optP_none,optP_some,optAV_locs,optAV_ren,optAV_le,byM_none,byM_some,td,reduceCtorEq]
 have hfl:f<now.length:=by
  have:=idxF_range (fun x:DPlan=>decide (((r:Int),true)∈x.2.1)) now;omega
 rw[if_neg hf0] at b01;obtain ⟨B1,b10,b11,b12⟩:=foS_1 (N,A,C,Q,P,S1,S2,S3) now r f (B0 r);rw[←b01] at b12;obtain ⟨f,rfl⟩:∃n:Nat,f=n:=⟨f.toNat,by omega⟩;simp only[↓hcsImp,entSwR,entFrs,entSwS,entSwT,entMv1,entIdxFuncPln,entWo,undef,hr',wr,hfr,hf0,optAV_none,optAV_some,optP_none,optP_some,optAV_locs,optAV_ren,optAV_le,byM_none,byM_some,go_sem];try simp only[hr',wr,hfr,hf0,optAV_none,optAV_some,optP_none,optP_some,optAV_locs,optAV_ren,optAV_le,byM_none,byM_some,td,reduceCtorEq]
 refine XW_for 3000 x34_1d [0,13,17,1005,2002] Nat (fun t=>[(25,.val Z1 (t:Int))]) (fun t=>[(1000,.box 30 [optAV Z13 ((B1 t).1.map fun x=>x.2)]),(1001,.box 32 [.val Z1 (byM (B1 t).1).1,.val Z1 (byM (B1 t).1).2.1,.val Z1 (byM (B1 t).1).2.2.1,.val Z1 (byM (B1 t).1).2.2.2.1,.val Z1 (byM (B1 t).1).2.2.2.2]),(14,.box 3 [.val Z1 (B1 t).2])]) (fun t=>t≤now.length) (fun t=>now.length-t) 0 ?_ ?_ ?_
 ·dsimp only[x34_1d];simp only[b10,optAV_none,optAV_some,optP_none,optP_some,optAV_locs,optAV_ren,optAV_le,byM_none,byM_some,go_sem];first|done|trivial|exact ⟨rfl,rfl⟩|rfl
 ·exact Nat.zero_le _
 intro t ht;dsimp only[x34_1,x34_1d,Z1,Z12,Z13,Za,Zf,Zg];by_cases ht':t<now.length
 case neg=>
  obtain rfl:t=now.length:=by omega
  simp only[↓hcsImp,entSwR,entFrs,entSwS,entSwT,entMv1,entIdxFuncPln,entWo,undef,ht',wr,optAV_none,optAV_some,optP_none,optP_some,optAV_locs,optAV_ren,optAV_le,byM_none,byM_some,go_sem];try simp only[ht',wr,optAV_none,optAV_some,optP_none,optP_some,optAV_locs,optAV_ren,optAV_le,byM_none,byM_some,td,reduceCtorEq]
  refine ⟨r+1,by omega,by omega,?_⟩;rw[b12];simp only[optAV_none,optAV_some,optP_none,optP_some,optAV_locs,optAV_ren,optAV_le,byM_none,byM_some,td,reduceCtorEq]
 have wt:IntKind.i64.wrap ((t:Int)+1)=((t+1:Nat):Int):=i64_in _ (by omega);have b11:=b11 t;have hso:=outS_len (now.getD t dPlan).2.1 r;have hs2:=(hln (now.getD t dPlan) (by simp[List.getD,ht'])).1;dsimp only[dPlan] at b11 hso hs2;have hs6:(now.getD t (0,[],[],[])).2.1.length≤1000000:=by omega
 obtain ⟨O,hO⟩:∃O,outS (now.getD t (0,[],[],[])).2.1 (r:Int)=O:=⟨_,rfl⟩;rw[hO] at b11 hso;have hO20:O.length≤20:=by omega
 obtain ⟨B2,b20,b21,b22⟩:=foS_2 (N,A,C,Q,P,S1,S2,S3) now r f t O.length (B1 t);rw[←b11] at b22;simp only[↓hcsImp,entSwR,entFrs,entSwS,entSwT,entMv1,entIdxFuncPln,entWo,undef,ht',wt,hs6,hO,optAV_none,optAV_some,optP_none,optP_some,optAV_locs,optAV_ren,optAV_le,byM_none,byM_some,go_sem];try simp only[ht',wt,hs6,hO,optAV_none,optAV_some,optP_none,optP_some,optAV_locs,optAV_ren,optAV_le,byM_none,byM_some,td,reduceCtorEq]
 refine XW_for 4000 x34_2d [0,13,17,1005,2002] Nat (fun p=>[(10,.val Z1 (p:Int))]) (fun p=>[(1000,.box 30 [optAV Z13 ((B2 p).1.map fun x=>x.2)]),(1001,.box 32 [.val Z1 (byM (B2 p).1).1,.val Z1 (byM (B2 p).1).2.1,.val Z1 (byM (B2 p).1).2.2.1,.val Z1 (byM (B2 p).1).2.2.2.1,.val Z1 (byM (B2 p).1).2.2.2.2]),(14,.box 3 [.val Z1 (B2 p).2])]) (fun p=>p≤O.length+1) (fun p=>O.length+1-p) 0 ?_ ?_ ?_
 ·dsimp only[x34_2d];simp only[b20,optAV_none,optAV_some,optP_none,optP_some,optAV_locs,optAV_ren,optAV_le,byM_none,byM_some,go_sem];first|done|trivial|exact ⟨rfl,rfl⟩|rfl
 ·exact Nat.zero_le _
 intro p hp;dsimp only[x34_2,x34_2d,Za,Zb,Zg];by_cases hp':p≤O.length
 case neg=>
  obtain rfl:p=O.length+1:=by omega
  have hpi:¬((O.length+1:Nat):Int)≤(O.length:Int):=by omega
  simp only[↓hcsImp,entSwR,entFrs,entSwS,entSwT,entMv1,entIdxFuncPln,entWo,undef,hp',hpi,wt,optAV_none,optAV_some,optP_none,optP_some,optAV_locs,optAV_ren,optAV_le,byM_none,byM_some,go_sem];try simp only[hp',hpi,wt,optAV_none,optAV_some,optP_none,optP_some,optAV_locs,optAV_ren,optAV_le,byM_none,byM_some,td,reduceCtorEq]
  refine ⟨t+1,by omega,by omega,?_⟩;rw[b22];simp only[optAV_none,optAV_some,optP_none,optP_some,optAV_locs,optAV_ren,optAV_le,byM_none,byM_some,td,reduceCtorEq]
 have hpi:(p:Int)≤(O.length:Int):=by omega
 have wp:IntKind.i64.wrap ((p:Int)+1)=((p+1:Nat):Int):=i64_in _ (by omega);have b21:=b21 p;obtain ⟨B3,b30,b31,b32⟩:=foS_3 (N,A,C,Q,P,S1,S2,S3) now r f t O.length p (B2 p);rw[←b21] at b32;simp only[↓hcsImp,entSwR,entFrs,entSwS,entSwT,entMv1,entIdxFuncPln,entWo,undef,hp',hpi,optAV_none,optAV_some,optP_none,optP_some,optAV_locs,optAV_ren,optAV_le,byM_none,byM_some,go_sem];try simp only[hp',hpi,optAV_none,optAV_some,optP_none,optP_some,optAV_locs,optAV_ren,optAV_le,byM_none,byM_some,td,reduceCtorEq]
 refine XW_for 5000 x34_3d [0,13,17,1005,2002] Nat (fun i=>[(11,.val Z1 ((p+i:Nat):Int))]) (fun i=>[(1000,.box 30 [optAV Z13 ((B3 i).1.map fun x=>x.2)]),(1001,.box 32 [.val Z1 (byM (B3 i).1).1,.val Z1 (byM (B3 i).1).2.1,.val Z1 (byM (B3 i).1).2.2.1,.val Z1 (byM (B3 i).1).2.2.2.1,.val Z1 (byM (B3 i).1).2.2.2.2]),(14,.box 3 [.val Z1 (B3 i).2])]) (fun i=>i≤O.length+1-p) (fun i=>O.length+1-p-i) 0 ?_ ?_ ?_
 ·dsimp only[x34_3d];simp only[b30,optAV_none,optAV_some,optP_none,optP_some,optAV_locs,optAV_ren,optAV_le,byM_none,byM_some,go_sem];first|done|trivial|exact ⟨rfl,rfl⟩|rfl
 ·exact Nat.zero_le _
 intro i hi;dsimp only[x34_3,x34_3d,x35,Z1,Z21,Z22,Z24,Za,Zb,Zc,Zd,Zg];by_cases hi':i<O.length+1-p
 case neg=>
  obtain rfl:i=O.length+1-p:=by omega
  have hii:¬((p+(O.length+1-p):Nat):Int)≤(O.length:Int):=by omega
  have hin:¬p+(O.length+1-p)≤O.length:=by omega
  simp only[↓hcsImp,entSwR,entFrs,entSwS,entSwT,entMv1,entIdxFuncPln,entWo,undef,hii,hin,wp,optAV_none,optAV_some,optP_none,optP_some,optAV_locs,optAV_ren,optAV_le,byM_none,byM_some,go_sem];try simp only[hii,hin,wp,optAV_none,optAV_some,optP_none,optP_some,optAV_locs,optAV_ren,optAV_le,byM_none,byM_some,td,reduceCtorEq]
  refine ⟨p+1,by omega,by omega,?_⟩;rw[b32];simp only[optAV_none,optAV_some,optP_none,optP_some,optAV_locs,optAV_ren,optAV_le,byM_none,byM_some,td,reduceCtorEq]
 have hii:((p+i:Nat):Int)≤(O.length:Int):=by omega
 have hin:p+i≤O.length:=by omega
 have wi:IntKind.i64.wrap (((p+i:Nat):Int)+1)=((p+(i+1):Nat):Int):=(i64_in _ (by omega)).trans (by omega);have b31:=b31 i;have hmv:=hmv (r,(f:Int),(t:Int),(p:Int),((p+i:Nat):Int));obtain ⟨⟨nx,e⟩,hM⟩:∃X,movedF (N,A,C,Q,P,S1,S2,S3) now (r,(f:Int),(t:Int),(p:Int),((p+i:Nat):Int))=X:=⟨_,rfl⟩;rw[hM] at b31 hmv;dsimp only at b31 hmv;by_cases he:e=0
 ·subst he;obtain ⟨m1,m2,m3⟩:=hmv rfl;by_cases hlt:totalF (N,A,C,Q,P,S1,S2,S3) nx<(B3 i).2
  ·rw[if_pos ⟨rfl,hlt⟩] at b31;simp only[↓hcsImp,entSwR,entFrs,entSwS,entSwT,entMv1,entIdxFuncPln,entWo,undef,hii,hin,wi,hR,hq,hl,hM,m2,hlt,optAV_none,optAV_some,optP_none,optP_some,optAV_locs,optAV_ren,optAV_le,byM_none,byM_some,go_sem];try simp only[hii,hin,wi,hR,hq,hl,hM,m2,hlt,optAV_none,optAV_some,optP_none,optP_some,optAV_locs,optAV_ren,optAV_le,byM_none,byM_some,td,reduceCtorEq]
   refine ⟨hp2,m3,i+1,by omega,by omega,rfl,?_⟩;rw[b31];simp only[optAV_none,optAV_some,optP_none,optP_some,optAV_locs,optAV_ren,optAV_le,byM_none,byM_some,go_sem]
  ·rw[if_neg (fun z=>hlt z.2)] at b31;simp only[↓hcsImp,entSwR,entFrs,entSwS,entSwT,entMv1,entIdxFuncPln,entWo,undef,hii,hin,wi,hR,hq,hl,hM,m2,hlt,optAV_none,optAV_some,optP_none,optP_some,optAV_locs,optAV_ren,optAV_le,byM_none,byM_some,go_sem];try simp only[hii,hin,wi,hR,hq,hl,hM,m2,hlt,optAV_none,optAV_some,optP_none,optP_some,optAV_locs,optAV_ren,optAV_le,byM_none,byM_some,td,reduceCtorEq]
   refine ⟨hp2,m3,i+1,by omega,by omega,rfl,?_⟩;rw[b31];simp only[optAV_none,optAV_some,optP_none,optP_some,optAV_locs,optAV_ren,optAV_le,byM_none,byM_some,go_sem]
 ·rw[if_neg (fun z=>he z.1)] at b31;simp only[↓hcsImp,entSwR,entFrs,entSwS,entSwT,entMv1,entIdxFuncPln,entWo,undef,hii,hin,wi,hR,hq,hl,hM,he,optAV_none,optAV_some,optP_none,optP_some,optAV_locs,optAV_ren,optAV_le,byM_none,byM_some,go_sem];try simp only[hii,hin,wi,hR,hq,hl,hM,he,optAV_none,optAV_some,optP_none,optP_some,optAV_locs,optAV_ren,optAV_le,byM_none,byM_some,td,reduceCtorEq]
  refine ⟨hp2,i+1,by omega,by omega,rfl,?_⟩;rw[b31];simp only[optAV_none,optAV_some,optP_none,optP_some,optAV_locs,optAV_ren,optAV_le,byM_none,byM_some,go_sem]
end T
end Go.Proofs.YtcnfmabhghhdnaaGreat
end
