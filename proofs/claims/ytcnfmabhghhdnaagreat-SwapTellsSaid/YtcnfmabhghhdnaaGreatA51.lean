/- Parts of the proof of the law; no condition. -/
import Derived.Test.YtcnfmabhghhdnaaGreatA49
set_option linter.all false
section
namespace Go.Proofs.YtcnfmabhghhdnaaGreat
open Go.RowKit Go.IntWalk
namespace T
def entMvs:Ent:=⟨36,.cons Z24 (.cons Z22 .nil),.sl Z21,false,none,fun x=>RightPs x.1 x.2.1∧List.length (α:=DReq) (x.1:DWorld).2.2.2.1≤10∧List.length (α:=DPlan) x.2.1≤1000,fun x=>movesF (x.1:DWorld).2.2.2.1.length x.2.1⟩
def csMvs:List Ent:=[entAt23,entWot23] theorem hcsMvs (f:FuncId):findEnt csMvs f=findEnt [entAt23,entWot23] f:=rfl
set_option maxHeartbeats 4000000 in
theorem conMvs:Con Tryz.prog entMvs:=by
 refine con_is (C:=csMvs) x36 (by kernel_rfl) (by simp[csMvs,conAt23,conWot23]) fun x hx hf=>?_;obtain ⟨⟨(N:Int),(A:List DArc),(C:List DCar),(Q:List DReq),(P:List DPair),(S1:Int),(S2:Int),(S3:Int)⟩,(ps:List DPlan),_⟩:=x;obtain ⟨hR,hq,hl⟩:RightPs (N,A,C,Q,P,S1,S2,S3) ps∧Q.length≤10∧ps.length≤1000:=hx;have hlen:=moves_len hR hq hl;have hst:∀k,k<ps.length→(ps.getD k dPlan).2.1.length≤20:=fun k hk=>(hR.lens hq _ (by simp[List.getD,hk])).1;obtain ⟨B0,b00,b01,b02,b03⟩:=mv_gen [] (fun r:Nat=>if fromF ps r<0 then [] else tosF ps r (fromF ps r)) Q.length;rw[List.nil_append] at b02;have b02:B0 Q.length=movesF Q.length ps:=b02;dsimp only at hlen;rw[←b02] at hlen;dsimp only[entMvs,x36,Z21,Zb,Zg];rw[←b02];simp only[↓hcsMvs,entAt23,entWot23,undef,go_sem];try simp only[td,reduceCtorEq]
 refine XW_for 1000 x36_0d [0] Nat (fun r=>[(6,.val Z1 (r:Int)),(5,.own 9)]) (fun r=>[(9,.row 32 Z21 (B0 r))]) (fun r=>r≤Q.length) (fun r=>Q.length-r) 0 ?_ ?_ ?_
 ·dsimp only[x36_0d];simp only[b00,go_sem];first|done|exact ⟨rfl,rfl⟩|rfl
 ·exact Nat.zero_le _
 intro r hr;dsimp only[x36_0,x36_0d,Z7,Za,Zb,Zg];by_cases hr':r<Q.length
 case neg=>
  obtain rfl:r=Q.length:=by omega
  simp only[↓hcsMvs,entAt23,entWot23,undef,hr',go_sem];try simp only[hr',td,reduceCtorEq]
 obtain ⟨B1,b10,b11,b12,b13,b14⟩:=mv_from hR r (B0 r);rw[←b01 r] at b13;have l1:∀k,k≤ps.length→(B1 k).length≤4410000:=fun k hk=>by
  have h1:=b14 k hk;have h2:=b03 (r+1) hr';rw[b13] at h1;omega
 simp only[↓hcsMvs,entAt23,entWot23,undef,hr',go_sem];try simp only[hr',td,reduceCtorEq]
 refine XW_for 2000 x36_1d [0] Nat (fun k=>[(7,.val Z1 (k:Int)),(5,.own 9)]) (fun k=>[(9,.row 32 Z21 (B1 k))]) (fun k=>k≤ps.length) (fun k=>ps.length-k) 0 ?_ ?_ ?_
 ·dsimp only[x36_1d];simp only[b10,go_sem];first|done|exact ⟨rfl,rfl⟩|rfl
 ·exact Nat.zero_le _
 intro k hk;dsimp only[x36_1,x36_1d,Z12,Z13,Za,Zb,Zg];by_cases hk':k<ps.length
 case neg=>
  obtain rfl:k=ps.length:=by omega
  have wr:IntKind.i64.wrap ((r:Int)+1)=((r+1:Nat):Int):=i64_in _ (by omega);simp only[↓hcsMvs,entAt23,entWot23,undef,hk',wr,go_sem];try simp only[hk',wr,td,reduceCtorEq]
  exact ⟨r+1,by omega,by omega,rfl,b13⟩
 have wk:IntKind.i64.wrap ((k:Int)+1)=((k+1:Nat):Int):=i64_in _ (by omega);have hat:=at_mem (x:=((r:Int),true)) (ss:=(ps.getD k dPlan).2.1);by_cases hm:((r:Int),true)∈(ps.getD k dPlan).2.1
 case neg=>
  have c1:atF ((r:Int),true) (ps.getD k dPlan).2.1<0:=Int.not_le.1 fun q=>hm (hat.1 q);have e1:=b11 k hk' hm;dsimp only[dPlan] at c1;simp only[↓hcsMvs,entAt23,entWot23,undef,hk',wk,c1,go_sem];try simp only[hk',wk,c1,td,reduceCtorEq]
  exact ⟨k+1,by omega,by omega,rfl,e1.symm⟩
 have c1:¬atF ((r:Int),true) (ps.getD k dPlan).2.1<0:=Int.not_lt.2 (hat.2 hm);have e1:=b12 k hk' hm;obtain ⟨B2,b20,b21,b22,b23⟩:=mv_gen (B1 k) (fun t:Nat=>picksF r k t (outS (ps.getD t dPlan).2.1 r).length) ps.length;have b22:B2 ps.length=B1 (k+1):=b22.trans e1.symm;have l2:∀t,t≤ps.length→(B2 t).length≤4410000:=fun t ht=>by
  have h1:=b23 t ht;have h2:=l1 (k+1) hk';rw[b22] at h1;omega
 dsimp only[dPlan] at c1;simp only[↓hcsMvs,entAt23,entWot23,undef,hk',wk,c1,go_sem];try simp only[hk',wk,c1,td,reduceCtorEq]
 refine XW_for 3000 x36_2d [0] Nat (fun t=>[(8,.val Z1 (t:Int)),(5,.own 9)]) (fun t=>[(9,.row 32 Z21 (B2 t))]) (fun t=>t≤ps.length) (fun t=>ps.length-t) 0 ?_ ?_ ?_
 ·dsimp only[x36_2d];simp only[b20,go_sem];first|done|exact ⟨rfl,rfl⟩|rfl
 ·exact Nat.zero_le _
 intro t ht;dsimp only[x36_2,x36_2d,Z12,Z13,Za,Zb,Zg];by_cases ht':t<ps.length
 case neg=>
  obtain rfl:t=ps.length:=by omega
  simp only[↓hcsMvs,entAt23,entWot23,undef,ht',wk,go_sem];try simp only[ht',wk,td,reduceCtorEq]
  exact ⟨k+1,by omega,by omega,rfl,b22⟩
 have wt:IntKind.i64.wrap ((t:Int)+1)=((t+1:Nat):Int):=i64_in _ (by omega);have hso:=outS_len (ps.getD t dPlan).2.1 r;have hs2:=hst t ht';have hs6:(ps.getD t dPlan).2.1.length≤1000000:=by omega
 have b21:=b21 t;dsimp only[dPlan] at hso hs2 hs6 b21;obtain ⟨O,hO⟩:∃O,outS (ps.getD t (0,[],[],[])).2.1 (r:Int)=O:=⟨_,rfl⟩;rw[hO] at hso b21;obtain ⟨B3,b30,b31,b32,b33⟩:=mv_gen (B2 t) (dropsF r k t O.length) (O.length+1);have b32:B3 (O.length+1)=B2 (t+1):=b32.trans b21.symm;have l3:∀t,t≤O.length+1→(B3 t).length≤4410000:=fun p hp=>by
  have h1:=b33 p hp;have h2:=l2 (t+1) ht';rw[b32] at h1;omega
 simp only[↓hcsMvs,entAt23,entWot23,undef,ht',wt,hs6,hO,go_sem];try simp only[ht',wt,hs6,hO,td,reduceCtorEq]
 refine XW_for 4000 x36_3d [0] Nat (fun p=>[(10,.val Z1 (p:Int)),(5,.own 9)]) (fun p=>[(9,.row 32 Z21 (B3 p))]) (fun p=>p≤O.length+1) (fun p=>O.length+1-p) 0 ?_ ?_ ?_
 ·dsimp only[x36_3d];simp only[b30,go_sem];first|done|exact ⟨rfl,rfl⟩|rfl
 ·exact Nat.zero_le _
 intro p hp;dsimp only[x36_3,x36_3d,Za,Zb,Zg];by_cases hp':p≤O.length
 case neg=>
  obtain rfl:p=O.length+1:=by omega
  have hpi:¬((O.length+1:Nat):Int)≤(O.length:Int):=by omega
  simp only[↓hcsMvs,entAt23,entWot23,undef,hp',hpi,wt,go_sem];try simp only[hp',hpi,wt,td,reduceCtorEq]
  exact ⟨t+1,by omega,by omega,rfl,b32⟩
 have hpi:(p:Int)≤(O.length:Int):=by omega
 have wp:IntKind.i64.wrap ((p:Int)+1)=((p+1:Nat):Int):=i64_in _ (by omega);obtain ⟨B4,b40,b41,b42,b43⟩:=mv_drops (B3 p) r k t O.length p;have b42:B4 (O.length+1-p)=B3 (p+1):=b42.trans (b31 p).symm;have l4:∀i,i≤O.length+1-p→(B4 i).length≤4410000:=fun i hi=>by
  have h1:=b43 i hi;have h2:=l3 (p+1) (by omega);rw[b42] at h1;omega
 simp only[↓hcsMvs,entAt23,entWot23,undef,hp',hpi,wp,go_sem];try simp only[hp',hpi,wp,td,reduceCtorEq]
 refine XW_for 5000 x36_4d [0] Nat (fun i=>[(11,.val Z1 ((p+i:Nat):Int)),(5,.own 9)]) (fun i=>[(9,.row 32 Z21 (B4 i))]) (fun i=>i≤O.length+1-p) (fun i=>O.length+1-p-i) 0 ?_ ?_ ?_
 ·dsimp only[x36_4d];simp only[b40,go_sem];first|done|exact ⟨rfl,rfl⟩|rfl
 ·exact Nat.zero_le _
 intro i hi;dsimp only[x36_4,x36_4d,Z1,Z21,Za,Zb,Zg];by_cases hi':i<O.length+1-p
 ·have hii:((p+i:Nat):Int)≤(O.length:Int):=by omega
  have hin:p+i≤O.length:=by omega
  have wi:IntKind.i64.wrap (((p+i:Nat):Int)+1)=((p+(i+1):Nat):Int):=(i64_in _ (by omega)).trans (by omega);have hlb:=l4 i (by omega);have hb:((B4 i).length+1)*40≤140737488355328:=by omega
  simp only[↓hcsMvs,entAt23,entWot23,undef,hii,hin,wi,hb,go_sem];try simp only[hii,hin,wi,hb,td,reduceCtorEq]
  exact ⟨i+1,by omega,by omega,rfl,(b41 i).symm⟩
 ·obtain rfl:i=O.length+1-p:=by omega
  have hii:¬((p+(O.length+1-p):Nat):Int)≤(O.length:Int):=by omega
  have hin:¬p+(O.length+1-p)≤O.length:=by omega
  simp only[↓hcsMvs,entAt23,entWot23,undef,hii,hin,wp,go_sem];try simp only[hii,hin,wp,td,reduceCtorEq]
  exact ⟨p+1,by omega,by omega,rfl,b42⟩
def entImR:Ent:=⟨15,.cons Z24 (.cons Z22 .nil),.cons Z22 (.cons Z27 (.cons Z1 .nil)),true,none,fun x=>(List.length (α:=DReq) (x.1:DWorld).2.2.2.1≤10∧List.length (α:=DPlan) x.2.1≤1000)∧∀p∈(x.2.1:List DPlan),p.2.1.length≤24,fun x=>((improveF x.1 x.2.1).1,(improveF x.1 x.2.1).2.1,(improveF x.1 x.2.1).2.2,())⟩
def csImR:List Ent:=[entRgR,entTtR,entMvs,entMvR] theorem hcsImR (f:FuncId):findEnt csImR f=findEnt [entRgR,entTtR,entMvs,entMvR] f:=rfl
set_option maxHeartbeats 8000000 in
theorem conImR:Con Tryz.prog entImR:=by
 refine con_is (C:=csImR) x15 (by kernel_rfl) (by simp[csImR,conRgR,conTtR,conMvs,conMvR]) fun x hx hf=>?_;obtain ⟨⟨(N:Int),(A:List DArc),(C:List DCar),(Q:List DReq),(P:List DPair),(S1:Int),(S2:Int),(S3:Int)⟩,(ps:List DPlan),_⟩:=x;obtain ⟨⟨hq,hl⟩,h1⟩:(Q.length≤10∧ps.length≤1000)∧∀p∈ps,p.2.1.length≤24:=hx;have hF:improveF (N,A,C,Q,P,S1,S2,S3) ps=if rightPs (N,A,C,Q,P,S1,S2,S3) ps=true then impF (N,A,C,Q,P,S1,S2,S3) 101 ps [] else ([],[],1):=rfl
 have hi:=rightPs_iff (w:=(N,A,C,Q,P,S1,S2,S3)) (ps:=ps);dsimp only[entImR,x15,Z13,Z21,Z24,Za,Zb,Zg];cases hr:rightPs (N,A,C,Q,P,S1,S2,S3) ps with
 |false=>
  rw[if_neg (by rw[hr];decide)] at hF;simp only[↓hcsImR,entRgR,entTtR,entMvs,entMvR,undef,hF,hr,go_sem];try simp only[hF,hr,td,reduceCtorEq]
 |true=>
 have hR:=hi.1 hr;rw[if_pos hr] at hF;rw[hF];clear hF hi h1;obtain ⟨F,hFF⟩:∃F,impF (N,A,C,Q,P,S1,S2,S3) 101 ps []=F:=⟨_,rfl⟩;rw[hFF];simp only[↓hcsImR,entRgR,entTtR,entMvs,entMvR,undef,hr,go_sem];try simp only[hr,td,reduceCtorEq]
 refine XW_for 1000 x15_0d [0] (List DPlan×List DMove) (fun s=>[(7,.val Z22 s.1),(8,.own 9)]) (fun s=>[(9,.row 32 Z21 s.2)]) (fun s=>RightPs (N,A,C,Q,P,S1,S2,S3) s.1∧s.1.length≤1000∧s.2.length≤101∧impF (N,A,C,Q,P,S1,S2,S3) (101-s.2.length) s.1 s.2=F) (fun s=>101-s.2.length) (ps,[]) ?_ ?_ ?_
 ·dsimp only[x15_0d];simp only[go_sem];try exact ⟨rfl,rfl⟩
 ·exact ⟨hR,hl,by simp,hFF⟩
 rintro ⟨now,made⟩ ⟨hR,hl,hm,hFF⟩;dsimp only at hR hl hm hFF;dsimp only[x15_0,x15_0d,Z21,Z24,Za,Zb,Zc,Zd,Zf,Zg];by_cases hm':made.length≤100
 case neg=>
  have hmi:¬(made.length:Int)≤100:=by omega
  have e0:101-made.length=0:=by omega
  have hFF:([],[],6)=F:=by rw[←hFF,e0];rfl
  rw[←hFF];simp only[↓hcsImR,entRgR,entTtR,entMvs,entMvR,undef,hmi,hm',go_sem];try simp only[hmi,hm',td,reduceCtorEq]
 have hmi:(made.length:Int)≤100:=by omega
 obtain ⟨B,b0,b1,b2⟩:=foS_at (N,A,C,Q,P,S1,S2,S3) now (movesF Q.length now);have hln:=hR.lens hq;have hlen:=moves_len hR hq hl;have p1:∀p∈now,p.2.1.length≤24:=fun p hp=>by have:=hln p hp;omega
 have p2:∀p∈now,p.2.1.length≤900:=fun p hp=>by have:=hln p hp;omega
 have hsc:foS (N,A,C,Q,P,S1,S2,S3) now (none,totalF (N,A,C,Q,P,S1,S2,S3) now) (movesF Q.length now)=scanF (N,A,C,Q,P,S1,S2,S3) now:=rfl;rw[hsc] at b2;dsimp only at hlen;have hmv:=fun m h=>moved_right (m:=m) hR h;obtain ⟨l,hL⟩:∃l,movesF Q.length now=l:=⟨_,rfl⟩;rw[hL] at b1 b2 hlen;simp only[↓hcsImR,entRgR,entTtR,entMvs,entMvR,undef,hmi,hm',hR,hq,hl,p1,p2,hL,go_sem];try simp only[hmi,hm',hR,hq,hl,p1,p2,hL,td,reduceCtorEq]
 refine ⟨p1,?_⟩;have hl4:l.length≤4410000:=hlen;refine XW_for 2000 x15_1d [0,9] (Nat×Int) (fun s=>[(12,.val Z1 (s.1:Int)),(9,.val Z1 (B s.1).2),(10,.val Z1 s.2)]) (fun _=>[])
  (fun s=>s.1≤l.length∧((B s.1).1=none∧s.2= -1∨∃k:Nat,k<l.length∧s.2=k∧(B s.1).1=some (l.getD k dMove,(movedF (N,A,C,Q,P,S1,S2,S3) now (l.getD k dMove)).1))) (fun s=>l.length-s.1) (0,-1) ?_ ?_ ?_
 ·dsimp only[x15_1d];simp only[b0,go_sem];try trivial
  try exact ⟨rfl,rfl,rfl⟩
  try exact ⟨rfl,rfl⟩
 ·exact ⟨Nat.zero_le _,.inl ⟨by dsimp only;rw[b0],rfl⟩⟩
 rintro ⟨i,at'⟩ ⟨hi,hat⟩;dsimp only at hi hat;dsimp only[x15_1,x15_1d,Z21,Z24,Za,Zb,Zc,Zf,Zg];by_cases hi':i<l.length
 ·have wi:IntKind.i64.wrap ((i:Int)+1)=((i+1:Nat):Int):=i64_in _ (by omega);have b1:=b1 i hi';have hmv:=hmv (l.getD i dMove);obtain ⟨⟨nx,e⟩,hM⟩:∃X,movedF (N,A,C,Q,P,S1,S2,S3) now (l.getD i dMove)=X:=⟨_,rfl⟩;rw[hM] at b1 hmv;dsimp only at b1 hmv;have hk:(B (i+1)).1=some (l.getD i dMove,nx)→∃k:Nat,k<l.length∧(i:Int)=k∧(B (i+1)).1=some (l.getD k dMove,(movedF (N,A,C,Q,P,S1,S2,S3) now (l.getD k dMove)).1):=fun h=>⟨i,hi',rfl,by rw[h,hM]⟩;dsimp only[dMove] at hM;by_cases he:e=0
  ·subst he;have m4:=hmv rfl;have m1:=m4.lens hq;have m2:nx.length≤1000:=by rw[m4.2.1,←hR.2.1];exact hl
   have m3:∀p∈nx,p.2.1.length≤24:=fun p hp=>by have:=m1 p hp;omega
   by_cases hlt:totalF (N,A,C,Q,P,S1,S2,S3) nx<(B i).2
   ·rw[if_pos ⟨rfl,hlt⟩] at b1;simp only[↓hcsImR,entRgR,entTtR,entMvs,entMvR,undef,hi',wi,hl,hM,m2,hlt,go_sem];try simp only[hi',wi,hl,hM,m2,hlt,td,reduceCtorEq]
    refine ⟨p2,m3,(i+1,(i:Int)),by dsimp only;omega,⟨hi',.inr (hk (by rw[b1]))⟩,rfl,?_,rfl⟩;rw[b1]
   ·rw[if_neg (fun z=>hlt z.2)] at b1;simp only[↓hcsImR,entRgR,entTtR,entMvs,entMvR,undef,hi',wi,hl,hM,m2,hlt,go_sem];try simp only[hi',wi,hl,hM,m2,hlt,td,reduceCtorEq]
    refine ⟨p2,m3,(i+1,at'),by dsimp only;omega,⟨hi',?_⟩,rfl,?_,rfl⟩
    ·dsimp only;rw[b1];exact hat
    ·dsimp only;rw[b1]
  ·rw[if_neg (fun z=>he z.1)] at b1;simp only[↓hcsImR,entRgR,entTtR,entMvs,entMvR,undef,hi',wi,hl,hM,he,go_sem];try simp only[hi',wi,hl,hM,he,td,reduceCtorEq]
   refine ⟨p2,(i+1,at'),by dsimp only;omega,⟨hi',?_⟩,rfl,?_,rfl⟩
   ·dsimp only;rw[b1];exact hat
   ·dsimp only;rw[b1]
 obtain rfl:i=l.length:=by omega
 rw[b2] at hat;obtain ⟨k,hk⟩:∃k,101-made.length=k+1:=⟨100-made.length,by omega⟩;rw[hk] at hFF;have hst:impF (N,A,C,Q,P,S1,S2,S3) (k+1) now made=match (scanF (N,A,C,Q,P,S1,S2,S3) now).1 with
  |none=>(now,made,0)
  |some x=>impF (N,A,C,Q,P,S1,S2,S3) k x.2 (made++[x.1]):=rfl
 rcases hat with ⟨h1,rfl⟩|⟨j,hj,rfl,h1⟩
 ·rw[h1] at hst;dsimp only at hst;rw[hst] at hFF;rw[←hFF];simp only[↓hcsImR,entRgR,entTtR,entMvs,entMvR,undef,hi',go_sem];try simp only[hi',td,reduceCtorEq]
  intro z;exact absurd z (by decide)
 ·rw[h1] at hst;dsimp only at hst;rw[hst] at hFF;obtain ⟨e1,e2,e3,e4,_⟩:=scan_some h1;have m4:=hmv _ e2;obtain ⟨⟨nx,e⟩,hM⟩:∃X,movedF (N,A,C,Q,P,S1,S2,S3) now (l.getD j dMove)=X:=⟨_,rfl⟩;rw[hM] at e2 m4 hFF;dsimp only at e2 m4 hFF;subst e2;have hb:(made.length+1)*40≤140737488355328:=by omega
  have hj0:¬(j:Int)<0:=by omega
  have m2:nx.length≤1000:=by rw[m4.2.1,←hR.2.1];exact hl
  obtain ⟨⟨q1,q2,q3,q4,q5⟩,hQ⟩:∃q,l.getD j dMove=q:=⟨_,rfl⟩;rw[hQ] at hM hFF;dsimp only[dMove] at hQ;simp only[↓hcsImR,entRgR,entTtR,entMvs,entMvR,undef,hi',hj,hj0,hl,hQ,hM,hb,go_sem];try simp only[hi',hj,hj0,hl,hQ,hM,hb,td,reduceCtorEq]
  refine ⟨p2,(nx,made++[(q1,q2,q3,q4,q5)]),?_,⟨m4,m2,?_,?_⟩,?_⟩
  ·dsimp only;rw[List.length_append,List.length_singleton];omega
  ·dsimp only;rw[List.length_append,List.length_singleton];omega
  ·dsimp only;rw[List.length_append,List.length_singleton,show 101-(made.length+1)=k by omega];exact hFF
  ·first|exact ⟨rfl,rfl⟩|rfl
end T
end Go.Proofs.YtcnfmabhghhdnaaGreat
end
