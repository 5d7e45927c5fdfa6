/- Parts of the proof of the law; no condition. -/
import Derived.Test.YtcnfmabhghhdnaaGreatA42
set_option linter.all false
section
namespace Go.Proofs.YtcnfmabhghhdnaaGreat
open Go.RowKit Go.IntWalk
namespace T
def entAs20:Ent:=⟨107,.cons Z24 (.cons Z1 (.cons Z12 .nil)),.bool,false,none,fun _=>True,fun x=>asksF x.1 x.2.1 x.2.2.1⟩
def csAs2:List Ent:=[entRR20,entIn20,entRRightS] theorem hcsAs2 (f:FuncId):findEnt csAs2 f=findEnt [entRR20,entIn20,entRRightS] f:=rfl
set_option maxHeartbeats 4000000 in
theorem conAs20:Con Tryz.prog entAs20:=by
 refine con_is (C:=csAs2) x107 (by kernel_rfl) (by simp[csAs2,conRR20,conIn20,conRRightS]) fun x hx hf=>?_;obtain ⟨⟨(N:Int),(A:List DArc),(C:List DCar),(Q:List DReq),(P:List DPair),(S1:Int),(S2:Int),(S3:Int)⟩,(c:Int),(ss:List DStop),_⟩:=x;cases hw:rightP (N,A,C,Q,P,S1,S2,S3) with
 |false=>
  have hz:asksF (N,A,C,Q,P,S1,S2,S3) c ss=false:=by unfold asksF;rw[hw];rfl
  dsimp only[entAs20,x107,Z23,Z24,Z7,Za,Zb,Zc,Ze,Zg];simp only[↓hcsAs2,entRR20,entIn20,entRRightS,undef,hw,hz,go_sem];try simp only[hw,hz,td,reduceCtorEq]
 |true=>
  have hcl:C.length≤600:=(rightP_iff.1 hw).2.1.1;have w:IntKind.i64.wrap ((C.length:Int)-1)=(C.length:Int)-1:=i64_in _ (by omega);have hz:asksF (N,A,C,Q,P,S1,S2,S3) c ss=(i3 c 0 ((C.length:Int)-1)&&rightS ss Q):=by
   unfold asksF i3;rw[hw,Bool.true_and];congr 1;rw[Bool.eq_iff_iff];simp;try omega
  cases h1:i3 c 0 ((C.length:Int)-1) with
  |false=>
   rw[h1] at hz;dsimp only[entAs20,x107,Z23,Z24,Z7,Za,Zb,Zc,Ze,Zg];simp only[↓hcsAs2,entRR20,entIn20,entRRightS,undef,hw,hz,w,h1,go_sem];try simp only[hw,hz,w,h1,td,reduceCtorEq]
  |true=>
   rw[h1] at hz;dsimp only[entAs20,x107,Z23,Z24,Z7,Za,Zb,Zc,Ze,Zg];simp only[↓hcsAs2,entRR20,entIn20,entRRightS,undef,hw,hz,w,h1,go_sem];try simp only[hw,hz,w,h1,td,reduceCtorEq]
def entNd20:Ent:=⟨159,.cons Z24 (.cons Z1 (.cons Z12 (.cons Z1 .nil))),(.int .i64),false,none,fun x=>asksF x.1 x.2.1 x.2.2.1=true∧0≤(x.2.2.2.1:Int)∧(x.2.2.2.1:Int)≤(x.2.2.1:List DStop).length,fun x=>nodeF x.1 x.2.1 x.2.2.1 (x.2.2.2.1:Int).toNat⟩
def csNd2:List Ent:=[] theorem hcsNd2 (f:FuncId):findEnt csNd2 f=findEnt [] f:=rfl
theorem conNd20:Con Tryz.prog entNd20:=by
 refine con_is (C:=csNd2) x159 (by kernel_rfl) (by simp[csNd2]) fun x hx hf=>?_;obtain ⟨⟨(N:Int),(A:List DArc),(C:List DCar),(Q:List DReq),(P:List DPair),(S1:Int),(S2:Int),(S3:Int)⟩,(c:Int),(ss:List DStop),(k:Int),_⟩:=x;obtain ⟨ha,h1,h2⟩:=hx;replace ha:asksF (N,A,C,Q,P,S1,S2,S3) c ss=true:=ha;replace h1:0≤k:=h1;replace h2:k≤(ss.length:Int):=h2;obtain ⟨hw,hc,h3⟩:=asks_iff.1 ha;dsimp only at hc h3;obtain ⟨c,rfl⟩:∃z:Nat,c=z:=⟨c.toNat,by omega⟩;have hcl:c<C.length:=by omega
 have hca:carAt (N,A,C,Q,P,S1,S2,S3) (c:Int)=C.getD c (0,0,0,0,0,0,0,0,0):=rfl;by_cases hk:k=0
 ·subst hk;have hn:nodeF (N,A,C,Q,P,S1,S2,S3) (c:Int) ss (Int.toNat 0)=(C.getD c (0,0,0,0,0,0,0,0,0)).2.1:=rfl;dsimp only[entNd20,x159,Z1,Z19,Z23,Z6,Z7,Z8,Za,Zb,Zc,Zd,Zf,Zg];simp only[↓hcsNd2,hcl,hn,go_sem];try simp only[hcl,hn,td,reduceCtorEq]
  rfl
 obtain ⟨k,rfl⟩:∃z:Nat,k=((z+1:Nat):Int):=⟨k.toNat-1,by omega⟩;have hkl:k<ss.length:=by omega
 have w:IntKind.i64.wrap (((k+1:Nat):Int)-1)=(k:Int):=(i64_in _ (by have:=h3.1.1;omega)).trans (by omega);have hq:=(h3.2 k hkl).1;have hn:=nodeF_s (N,A,C,Q,P,S1,S2,S3) (c:Int) ss k;generalize hS:ss.getD k dStop=st at hq hn;have hS':ss.getD k (0,false)=st:=hS;obtain ⟨r',p⟩:=st;dsimp only at hq hn;obtain ⟨r',rfl⟩:∃z:Nat,r'=z:=⟨r'.toNat,by omega⟩;have hql:r'<Q.length:=by omega
 have e1:reqAt (N,A,C,Q,P,S1,S2,S3) (r':Int)=Q.getD r' (0,0,0,0,0,0,0,0,0,0):=rfl;rw[e1] at hn;cases p with
 |true=>
  rw[if_pos rfl] at hn;dsimp only[entNd20,x159,Z1,Z19,Z23,Z6,Z7,Z8,Za,Zb,Zc,Zd,Zf,Zg];simp only[↓hcsNd2,hk,w,hkl,hS',hql,hn,go_sem];try simp only[hk,w,hkl,hS',hql,hn,td,reduceCtorEq]
 |false=>
  rw[if_neg (by simp)] at hn;dsimp only[entNd20,x159,Z1,Z19,Z23,Z6,Z7,Z8,Za,Zb,Zc,Zd,Zf,Zg];simp only[↓hcsNd2,hk,w,hkl,hS',hql,hn,go_sem];try simp only[hk,w,hkl,hS',hql,hn,td,reduceCtorEq]
theorem pick_before {ss:List DStop} {rs:List DReq} (h:RightS ss rs) {j k:Nat} (hj:j<ss.length) (hk:k<ss.length) {r:Int} (ej:ss.getD j dStop=(r,true)) (ek:ss.getD k dStop=(r,false)):(r,true)∈ss.take k:=by
 obtain ⟨m,h1,h2,h3⟩:=pick_drop h hj (by rw[ej]);have e1:=h.at_eq h2;have e2:=h.at_eq hk;rw[h3,ej] at e1;rw[ek] at e2;have:m=k:=by
  have:=e1.symm.trans e2;omega
 have:=mem_take_of hj (j:=k) (by omega);rwa [ej] at this
def entWn20:Ent:=⟨157,.cons Z24 (.cons Z1 (.cons Z12 (.cons Z1 .nil))),Z2,false,none,fun x=>asksF x.1 x.2.1 x.2.2.1=true∧0≤(x.2.2.2.1:Int)∧(x.2.2.2.1:Int)≤(x.2.2.1:List DStop).length,fun x=>winF x.1 x.2.1 x.2.2.1 (x.2.2.2.1:Int).toNat⟩
def csWn2:List Ent:=[] theorem hcsWn2 (f:FuncId):findEnt csWn2 f=findEnt [] f:=rfl
theorem conWn20:Con Tryz.prog entWn20:=by
 refine con_is (C:=csWn2) x157 (by kernel_rfl) (by simp[csWn2]) fun x hx hf=>?_;obtain ⟨⟨(N:Int),(A:List DArc),(C:List DCar),(Q:List DReq),(P:List DPair),(S1:Int),(S2:Int),(S3:Int)⟩,(c:Int),(ss:List DStop),(k:Int),_⟩:=x;obtain ⟨ha,h1,h2⟩:=hx;replace ha:asksF (N,A,C,Q,P,S1,S2,S3) c ss=true:=ha;replace h1:0≤k:=h1;replace h2:k≤(ss.length:Int):=h2;obtain ⟨hw,hc,h3⟩:=asks_iff.1 ha;dsimp only at hc h3;obtain ⟨c,rfl⟩:∃z:Nat,c=z:=⟨c.toNat,by omega⟩;have hcl:c<C.length:=by omega
 have hca:carAt (N,A,C,Q,P,S1,S2,S3) (c:Int)=C.getD c (0,0,0,0,0,0,0,0,0):=rfl;by_cases hk:k=0
 ·subst hk;have hn:winF (N,A,C,Q,P,S1,S2,S3) (c:Int) ss (Int.toNat 0)=((C.getD c (0,0,0,0,0,0,0,0,0)).2.2.1,(C.getD c (0,0,0,0,0,0,0,0,0)).2.2.2.1):=rfl;dsimp only[entWn20,x157,Z1,Z19,Z2,Z23,Z6,Z7,Z8,Za,Zb,Zc,Zd,Zg,Zi];simp only[↓hcsWn2,hcl,hn,go_sem];try simp only[hcl,hn,td,reduceCtorEq]
  rfl
 obtain ⟨k,rfl⟩:∃z:Nat,k=((z+1:Nat):Int):=⟨k.toNat-1,by omega⟩;have hkl:k<ss.length:=by omega
 have w:IntKind.i64.wrap (((k+1:Nat):Int)-1)=(k:Int):=(i64_in _ (by have:=h3.1.1;omega)).trans (by omega);have hq:=(h3.2 k hkl).1;have hn:=winF_s (N,A,C,Q,P,S1,S2,S3) (c:Int) ss k;have hpb:=fun {j:Nat} {r:Int} hj=>pick_before h3 (j:=j) (r:=r) hj hkl;rw[hca] at hn;generalize hS:ss.getD k dStop=st at hq hn hpb;have hS':ss.getD k (0,false)=st:=hS;obtain ⟨r,p⟩:=st;dsimp only at hq hn;obtain ⟨r,rfl⟩:∃z:Nat,r=z:=⟨r.toNat,by omega⟩;have hql:r<Q.length:=by omega
 have e1:reqAt (N,A,C,Q,P,S1,S2,S3) (r:Int)=Q.getD r (0,0,0,0,0,0,0,0,0,0):=rfl;rw[e1] at hn;generalize hK:C.getD c (0,0,0,0,0,0,0,0,0)=car at hn;generalize hQ:Q.getD r (0,0,0,0,0,0,0,0,0,0)=q at hn;obtain ⟨k1,k2,k3,k4,k5,k6,k7,k8,k9⟩:=car;obtain ⟨q1,q2,q3,q4,q5,q6,q7,q8⟩:=q;unfold minI at hn;dsimp only at hn;cases p with
 |true=>
  rw[if_pos rfl] at hn;dsimp only[entWn20,x157,Z1,Z19,Z2,Z23,Z6,Z7,Z8,Za,Zb,Zc,Zd,Zg,Zi];simp only[↓hcsWn2,hk,w,hkl,hS',hql,hcl,hK,hQ,hn,go_sem];try simp only[hk,w,hkl,hS',hql,hcl,hK,hQ,hn,td,reduceCtorEq]
 |false=>
  rw[if_neg (by simp)] at hn;dsimp only[entWn20,x157,Z1,Z19,Z2,Z23,Z6,Z7,Z8,Za,Zb,Zc,Zd,Zg,Zi];simp only[↓hcsWn2,hk,w,hkl,hS',hql,hcl,hK,hQ,go_sem];try simp only[hk,w,hkl,hS',hql,hcl,hK,hQ,td,reduceCtorEq]
  have hres:∀x y:Int,(x,y)=winF (N,A,C,Q,P,S1,S2,S3) (c:Int) ss (Int.toNat ((k+1:Nat):Int))↔(x,y)=winF (N,A,C,Q,P,S1,S2,S3) (c:Int) ss (k+1):=fun _ _=>Iff.rfl;refine XW_for 1000 x157_0d [0,1,7,16,24] Nat (fun j=>[(12,.val Z1 (j:Int))]) (fun _=>[]) (fun j=>j≤ss.length∧((r:Int),true)∉ss.take j) (fun j=>ss.length-j) 0 ?_ ?_ ?_
  ·dsimp only[x157_0d];simp only[go_sem];try trivial
  ·exact ⟨Nat.zero_le _,by simp⟩
  ·rintro j ⟨hj,hno⟩;by_cases hjl:j<ss.length
   ·have w2:IntKind.i64.wrap ((j:Int)+1)=((j+1:Nat):Int):=i64_in _ (by have:=h3.1.1;omega);have ht:=take_next hjl;replace hpb:=fun r=>hpb (j:=j) (r:=r) hjl;generalize hT:ss.getD j dStop=t at ht hpb;have hT':ss.getD j (0,false)=t:=hT;obtain ⟨t1,t2⟩:=t;have hnx:¬(t1=(r:Int)∧t2=true)→((r:Int),true)∉ss.take (j+1):=fun h h'=>by
     rw[ht] at h';rcases List.mem_append.1 h' with h'|h'
     ·exact hno h'
     ·have:=List.mem_singleton.1 h';rw[Prod.mk.injEq] at this;exact h ⟨this.1.symm,this.2.symm⟩
    dsimp only[x157_0,x157_0d,Z1,Z2,Z8,Za,Zb,Zc,Zd,Zf,Zg];simp only[↓hcsWn2,hjl,w2,hT',hcl,hK,hQ,go_sem];simp only[hjl,w2,hT',hcl,hK,hQ,td,reduceCtorEq];refine ⟨fun h=>?_,fun h=>⟨j+1,by omega,⟨by omega,hnx fun q=>?_⟩,rfl⟩⟩
    ·rw[hn,if_pos (hpb (r:Int) (by rw[h.1,h.2]) rfl)]
    ·have:=h q.1;rw[q.2] at this;exact Bool.noConfusion this
   ·dsimp only[x157_0,x157_0d,Z1,Z2,Z8,Za,Zb,Zc,Zd,Zf,Zg];simp only[↓hcsWn2,hjl,hcl,hK,hQ,go_sem];simp only[hjl,hcl,hK,hQ,td,reduceCtorEq];have hj2:j=ss.length:=by omega
    subst hj2;have hno':¬((r:Int),true)∈ss.take k:=fun h=>hno (by rw[List.take_length];exact List.mem_of_mem_take h);rw[if_neg hno'] at hn;rw[hn]
end T
end Go.Proofs.YtcnfmabhghhdnaaGreat
end
