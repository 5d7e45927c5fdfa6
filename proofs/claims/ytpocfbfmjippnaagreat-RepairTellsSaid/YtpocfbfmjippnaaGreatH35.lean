/- Parts of the proof of the law; no condition. -/
import Derived.Test.YtpocfbfmjippnaaGreatH34
set_option linter.all false
section
namespace Go.Proofs.YtpocfbfmjippnaaGreat
open Go.RowKit Go.IntWalk
namespace T
def entAs20:Ent:=⟨119,.cons Z21 (.cons Z1 (.cons Z15 .nil)),.bool,false,none,fun _=>True,fun x=>asksF x.1 x.2.1 x.2.2.1⟩
def csAs2:List Ent:=[entRR20,entIn20,entRRightS] theorem hcsAs2 (f:FuncId):findEnt csAs2 f=findEnt [entRR20,entIn20,entRRightS] f:=rfl
set_option maxHeartbeats 4000000 in
theorem conAs20:Con Tryz.prog entAs20:=by
 refine con_is (C:=csAs2) x119 (by kernel_rfl) (by simp[csAs2,conRR20,conIn20,conRRightS]) fun x hx hf=>?_;obtain ⟨⟨(N:Int),(A:List DArc),(C:List DCar),(Q:List DReq),(P:List DPair),(S1:Int),(S2:Int),(S3:Int)⟩,(c:Int),(ss:List DStop),_⟩:=x;cases hw:rightP (N,A,C,Q,P,S1,S2,S3) with
 |false=>
  have hz:asksF (N,A,C,Q,P,S1,S2,S3) c ss=false:=by unfold asksF;rw[hw];rfl
  dsimp only[entAs20,x119];simp only[↓hcsAs2,entRR20,entIn20,entRRightS,undef,hw,hz,go_sem];try simp only[hw,hz,td,reduceCtorEq]
 |true=>
  have hcl:C.length≤600:=(rightP_iff.1 hw).2.1.1;have w:IntKind.i64.wrap ((C.length:Int)-1)=(C.length:Int)-1:=i64_in _ (by omega);have hz:asksF (N,A,C,Q,P,S1,S2,S3) c ss=(i3 c 0 ((C.length:Int)-1)&&rightS ss Q):=by
   unfold asksF i3;rw[hw,Bool.true_and];congr 1;rw[Bool.eq_iff_iff];simp;try omega
  cases h1:i3 c 0 ((C.length:Int)-1) with
  |false=>
   rw[h1] at hz;dsimp only[entAs20,x119];simp only[↓hcsAs2,entRR20,entIn20,entRRightS,undef,hw,hz,w,h1,go_sem];try simp only[hw,hz,w,h1,td,reduceCtorEq]
  |true=>
   rw[h1] at hz;dsimp only[entAs20,x119];simp only[↓hcsAs2,entRR20,entIn20,entRRightS,undef,hw,hz,w,h1,go_sem];try simp only[hw,hz,w,h1,td,reduceCtorEq]
def entNd20:Ent:=⟨170,.cons Z21 (.cons Z1 (.cons Z15 (.cons Z1 .nil))),(.int .i64),false,none,fun x=>asksF x.1 x.2.1 x.2.2.1=true∧0≤(x.2.2.2.1:Int)∧(x.2.2.2.1:Int)≤(x.2.2.1:List DStop).length,fun x=>nodeF x.1 x.2.1 x.2.2.1 (x.2.2.2.1:Int).toNat⟩
def csNd2:List Ent:=[] theorem hcsNd2 (f:FuncId):findEnt csNd2 f=findEnt [] f:=rfl
theorem conNd20:Con Tryz.prog entNd20:=by
 refine con_is (C:=csNd2) x170 (by kernel_rfl) (by simp[csNd2]) fun x hx hf=>?_;obtain ⟨⟨(N:Int),(A:List DArc),(C:List DCar),(Q:List DReq),(P:List DPair),(S1:Int),(S2:Int),(S3:Int)⟩,(c:Int),(ss:List DStop),(k:Int),_⟩:=x;obtain ⟨ha,h1,h2⟩:=hx;replace ha:asksF (N,A,C,Q,P,S1,S2,S3) c ss=true:=ha;replace h1:0≤k:=h1;replace h2:k≤(ss.length:Int):=h2;obtain ⟨hw,hc,h3⟩:=asks_iff.1 ha;dsimp only at hc h3;obtain ⟨c,rfl⟩:∃z:Nat,c=z:=⟨c.toNat,by omega⟩;have hcl:c<C.length:=by omega
 have hca:carAt (N,A,C,Q,P,S1,S2,S3) (c:Int)=C.getD c (0,0,0,0,0,0,0,0,0):=rfl;by_cases hk:k=0
 ·subst hk;have hn:nodeF (N,A,C,Q,P,S1,S2,S3) (c:Int) ss (Int.toNat 0)=(C.getD c (0,0,0,0,0,0,0,0,0)).2.1:=rfl;dsimp only[entNd20,x170];simp only[↓hcsNd2,hcl,hn,go_sem];try simp only[hcl,hn,td,reduceCtorEq]
  rfl
 obtain ⟨k,rfl⟩:∃z:Nat,k=((z+1:Nat):Int):=⟨k.toNat-1,by omega⟩;have hkl:k<ss.length:=by omega
 have w:IntKind.i64.wrap (((k+1:Nat):Int)-1)=(k:Int):=(i64_in _ (by have:=h3.1.1;omega)).trans (by omega);have hq:=(h3.2 k hkl).1;have hn:=nodeF_s (N,A,C,Q,P,S1,S2,S3) (c:Int) ss k;generalize hS:ss.getD k dStop=st at hq hn;have hS':ss.getD k (0,false)=st:=hS;obtain ⟨r',p⟩:=st;dsimp only at hq hn;obtain ⟨r',rfl⟩:∃z:Nat,r'=z:=⟨r'.toNat,by omega⟩;have hql:r'<Q.length:=by omega
 have e1:reqAt (N,A,C,Q,P,S1,S2,S3) (r':Int)=Q.getD r' (0,0,0,0,0,0,0,0,0,0):=rfl;rw[e1] at hn;cases p with
 |true=>
  rw[if_pos rfl] at hn;dsimp only[entNd20,x170];simp only[↓hcsNd2,hk,w,hkl,hS',hql,hn,go_sem];try simp only[hk,w,hkl,hS',hql,hn,td,reduceCtorEq]
 |false=>
  rw[if_neg (by simp)] at hn;dsimp only[entNd20,x170];simp only[↓hcsNd2,hk,w,hkl,hS',hql,hn,go_sem];try simp only[hk,w,hkl,hS',hql,hn,td,reduceCtorEq]
theorem pick_before {ss:List DStop} {rs:List DReq} (h:RightS ss rs) {j k:Nat} (hj:j<ss.length) (hk:k<ss.length) {r:Int} (ej:ss.getD j dStop=(r,true)) (ek:ss.getD k dStop=(r,false)):(r,true)∈ss.take k:=by
 obtain ⟨m,h1,h2,h3⟩:=pick_drop h hj (by rw[ej]);have e1:=h.at_eq h2;have e2:=h.at_eq hk;rw[h3,ej] at e1;rw[ek] at e2;have:m=k:=by
  have:=e1.symm.trans e2;omega
 have:=mem_take_of hj (j:=k) (by omega);rwa [ej] at this
def entWn20:Ent:=⟨168,.cons Z21 (.cons Z1 (.cons Z15 (.cons Z1 .nil))),Z8,false,none,fun x=>asksF x.1 x.2.1 x.2.2.1=true∧0≤(x.2.2.2.1:Int)∧(x.2.2.2.1:Int)≤(x.2.2.1:List DStop).length,fun x=>winF x.1 x.2.1 x.2.2.1 (x.2.2.2.1:Int).toNat⟩
def csWn2:List Ent:=[] theorem hcsWn2 (f:FuncId):findEnt csWn2 f=findEnt [] f:=rfl
theorem conWn20:Con Tryz.prog entWn20:=by
 refine con_is (C:=csWn2) x168 (by kernel_rfl) (by simp[csWn2]) fun x hx hf=>?_;obtain ⟨⟨(N:Int),(A:List DArc),(C:List DCar),(Q:List DReq),(P:List DPair),(S1:Int),(S2:Int),(S3:Int)⟩,(c:Int),(ss:List DStop),(k:Int),_⟩:=x;obtain ⟨ha,h1,h2⟩:=hx;replace ha:asksF (N,A,C,Q,P,S1,S2,S3) c ss=true:=ha;replace h1:0≤k:=h1;replace h2:k≤(ss.length:Int):=h2;obtain ⟨hw,hc,h3⟩:=asks_iff.1 ha;dsimp only at hc h3;obtain ⟨c,rfl⟩:∃z:Nat,c=z:=⟨c.toNat,by omega⟩;have hcl:c<C.length:=by omega
 have hca:carAt (N,A,C,Q,P,S1,S2,S3) (c:Int)=C.getD c (0,0,0,0,0,0,0,0,0):=rfl;by_cases hk:k=0
 ·subst hk;have hn:winF (N,A,C,Q,P,S1,S2,S3) (c:Int) ss (Int.toNat 0)=((C.getD c (0,0,0,0,0,0,0,0,0)).2.2.1,(C.getD c (0,0,0,0,0,0,0,0,0)).2.2.2.1):=rfl;dsimp only[entWn20,x168];simp only[↓hcsWn2,hcl,hn,go_sem];try simp only[hcl,hn,td,reduceCtorEq]
  rfl
 obtain ⟨k,rfl⟩:∃z:Nat,k=((z+1:Nat):Int):=⟨k.toNat-1,by omega⟩;have hkl:k<ss.length:=by omega
 have w:IntKind.i64.wrap (((k+1:Nat):Int)-1)=(k:Int):=(i64_in _ (by have:=h3.1.1;omega)).trans (by omega);have hq:=(h3.2 k hkl).1;have hn:=winF_s (N,A,C,Q,P,S1,S2,S3) (c:Int) ss k;have hpb:=fun {j:Nat} {r:Int} hj=>pick_before h3 (j:=j) (r:=r) hj hkl;rw[hca] at hn;generalize hS:ss.getD k dStop=st at hq hn hpb;have hS':ss.getD k (0,false)=st:=hS;obtain ⟨r,p⟩:=st;dsimp only at hq hn;obtain ⟨r,rfl⟩:∃z:Nat,r=z:=⟨r.toNat,by omega⟩;have hql:r<Q.length:=by omega
 have e1:reqAt (N,A,C,Q,P,S1,S2,S3) (r:Int)=Q.getD r (0,0,0,0,0,0,0,0,0,0):=rfl;rw[e1] at hn;generalize hK:C.getD c (0,0,0,0,0,0,0,0,0)=car at hn;generalize hQ:Q.getD r (0,0,0,0,0,0,0,0,0,0)=q at hn;obtain ⟨k1,k2,k3,k4,k5,k6,k7,k8,k9⟩:=car;obtain ⟨q1,q2,q3,q4,q5,q6,q7,q8⟩:=q;unfold minI at hn;dsimp only at hn;cases p with
 |true=>
  rw[if_pos rfl] at hn;dsimp only[entWn20,x168];simp only[↓hcsWn2,hk,w,hkl,hS',hql,hcl,hK,hQ,hn,go_sem];try simp only[hk,w,hkl,hS',hql,hcl,hK,hQ,hn,td,reduceCtorEq]
 |false=>
  rw[if_neg (by simp)] at hn;dsimp only[entWn20,x168];simp only[↓hcsWn2,hk,w,hkl,hS',hql,hcl,hK,hQ,go_sem];try simp only[hk,w,hkl,hS',hql,hcl,hK,hQ,td,reduceCtorEq]
  have hres:∀x y:Int,(x,y)=winF (N,A,C,Q,P,S1,S2,S3) (c:Int) ss (Int.toNat ((k+1:Nat):Int))↔(x,y)=winF (N,A,C,Q,P,S1,S2,S3) (c:Int) ss (k+1):=fun _ _=>Iff.rfl;refine XW_for 1000 x168_0d [0,1,7,16,24] Nat (fun j=>[(12,.val Z1 (j:Int))]) (fun _=>[]) (fun j=>j≤ss.length∧((r:Int),true)∉ss.take j) (fun j=>ss.length-j) 0 ?_ ?_ ?_
  ·dsimp only[x168_0d];simp only[go_sem];try trivial
  ·exact ⟨Nat.zero_le _,by simp⟩
  ·rintro j ⟨hj,hno⟩;by_cases hjl:j<ss.length
   ·have w2:IntKind.i64.wrap ((j:Int)+1)=((j+1:Nat):Int):=i64_in _ (by have:=h3.1.1;omega);have ht:=take_next hjl;replace hpb:=fun r=>hpb (j:=j) (r:=r) hjl;generalize hT:ss.getD j dStop=t at ht hpb;have hT':ss.getD j (0,false)=t:=hT;obtain ⟨t1,t2⟩:=t;have hnx:¬(t1=(r:Int)∧t2=true)→((r:Int),true)∉ss.take (j+1):=fun h h'=>by
     rw[ht] at h';rcases List.mem_append.1 h' with h'|h'
     ·exact hno h'
     ·have:=List.mem_singleton.1 h';rw[Prod.mk.injEq] at this;exact h ⟨this.1.symm,this.2.symm⟩
    dsimp only[x168_0,x168_0d];simp only[↓hcsWn2,hjl,w2,hT',hcl,hK,hQ,go_sem];simp only[hjl,w2,hT',hcl,hK,hQ,td,reduceCtorEq];refine ⟨fun h=>?_,fun h=>⟨j+1,by omega,⟨by omega,hnx fun q=>?_⟩,rfl⟩⟩
    ·rw[hn,if_pos (hpb (r:Int) (by rw[h.1,h.2]) rfl)]
    ·have:=h q.1;rw[q.2] at this;exact Bool.noConfusion this
   ·dsimp only[x168_0,x168_0d];simp only[↓hcsWn2,hjl,hcl,hK,hQ,go_sem];simp only[hjl,hcl,hK,hQ,td,reduceCtorEq];have hj2:j=ss.length:=by omega
    subst hj2;have hno':¬((r:Int),true)∈ss.take k:=fun h=>hno (by rw[List.take_length];exact List.mem_of_mem_take h);rw[if_neg hno'] at hn;rw[hn]
theorem ridesR_no (w:DWorld) {ss:List DStop} {j:Nat} (h:(ss.getD j dStop).2=false):ridesR w ss j=ridesR w ss (j+1):=by
 unfold ridesR;rw[List.range_succ,List.filter_append,List.filter_cons_of_neg (by rw[h];simp),List.filter_nil,List.append_nil]
theorem ridesR_yes (w:DWorld) {ss:List DStop} {j:Nat} (h:(ss.getD j dStop).2=true):ridesR w ss j++[rideR w ss j]=ridesR w ss (j+1):=by
 unfold ridesR;rw[List.range_succ,List.filter_append,List.filter_cons_of_pos (p:=fun k=>(ss.getD k dStop).2) h,List.map_append];rfl
theorem ridesR_le (w:DWorld) (ss:List DStop) (j:Nat):(ridesR w ss j).length≤j:=by
 unfold ridesR;rw[List.length_map];exact Nat.le_trans (List.length_filter_le _ _) (by rw[List.length_range];omega)
def entChR:Ent:=⟨122,.cons Z21 (.cons Z1 (.cons Z15 .nil)),.cons Z18 (.cons Z1 .nil),true,none,fun _=>True,fun x=>((chainF x.1 x.2.1 x.2.2.1).1,(chainF x.1 x.2.1 x.2.2.1).2,())⟩
def csChR:List Ent:=[entAs20,entLr20,entNd20,entWn20] theorem hcsChR (f:FuncId):findEnt csChR f=findEnt [entAs20,entLr20,entNd20,entWn20] f:=rfl
set_option maxRecDepth 10000 in
set_option maxHeartbeats 4000000 in
theorem conChR:Con Tryz.prog entChR:=by
 refine con_is (C:=csChR) x122 (by kernel_rfl) (by simp[csChR,conAs20,conLr20,conNd20,conWn20]) fun x hx hf=>?_;obtain ⟨⟨(N:Int),(A:List DArc),(C:List DCar),(Q:List DReq),(P:List DPair),(S1:Int),(S2:Int),(S3:Int)⟩,(c:Int),(ss:List DStop),_⟩:=x;cases ha:asksF (N,A,C,Q,P,S1,S2,S3) c ss with
 |false=>
  have hz:chainF (N,A,C,Q,P,S1,S2,S3) c ss=(([],[],[]),1):=by unfold chainF;rw[if_pos ha];rfl
  dsimp only[entChR,x122];simp only[↓hcsChR,entAs20,entLr20,entNd20,entWn20,ha,hz,go_sem];try simp only[ha,hz,td,reduceCtorEq]
 |true=>
  obtain ⟨hw,hc,hss⟩:=asks_iff.1 ha;dsimp only at hc hss;dsimp only[entChR,x122];simp only[↓hcsChR,entAs20,entLr20,entNd20,entWn20,ha,go_sem];try simp only[ha,td,reduceCtorEq]
  have hL80:ss.length≤80:=hss.1.1;refine XW_nilb 9 0 145 Z8 rfl rfl ?_;refine XW_nilb 9 1 89 Z8 rfl rfl ?_;refine XW_nilb 9 2 149 Z3 rfl rfl ?_;refine XW_for 1000 x122_0d [0,1,14,16] Nat (fun k=>[(9,.val Z1 (k:Int))])
   (fun k=>[(9,.box 102 [.own 12,.own 14,.own 16]),(12,.row 145 Z8 ((List.range k).map (winF (N,A,C,Q,P,S1,S2,S3) c ss)))])
   (fun k=>k≤ss.length+1∧∀i,i<k→badW (N,A,C,Q,P,S1,S2,S3) c ss i=false) (fun k=>ss.length+1-k) 0 ?_ ?_ ?_
  ·dsimp only[x122_0d];simp only[go_sem];try trivial
  ·exact ⟨Nat.zero_le _,fun i hi=>by omega⟩
  ·rintro k ⟨hk,hB⟩;by_cases hkl:k≤ss.length
   ·have w2:IntKind.i64.wrap ((k:Int)+1)=((k+1:Nat):Int):=i64_in _ (by omega);have hwl:((List.range k).map (winF (N,A,C,Q,P,S1,S2,S3) c ss)).length=k:=by rw[List.length_map,List.length_range]
    have hms:=range_map_s (winF (N,A,C,Q,P,S1,S2,S3) c ss) k;have hcb:=chain_bad (j:=k) ha hkl;have hbw:badW (N,A,C,Q,P,S1,S2,S3) c ss k=decide ((winF (N,A,C,Q,P,S1,S2,S3) c ss k).1>(winF (N,A,C,Q,P,S1,S2,S3) c ss k).2):=rfl;have hki:(k:Int)≤(ss.length:Int):=by omega
    generalize hWk:winF (N,A,C,Q,P,S1,S2,S3) c ss k=wk at hms hbw;obtain ⟨wa,wb⟩:=wk;dsimp only[x122_0,x122_0d];simp only[↓hcsChR,entAs20,entLr20,entNd20,entWn20,hki,ha,w2,hWk,hwl,go_sem];simp only[hki,ha,w2,hWk,hwl,td,reduceCtorEq];refine ⟨fun h=>?_,fun h=>⟨by omega,k+1,by omega,⟨by omega,fun i hi=>?_⟩,rfl,hms⟩⟩
    ·rw[hcb (by rw[hbw];exact decide_eq_true h)]
    ·rcases Nat.lt_or_ge i k with q|q
     ·exact hB i q
     ·rw[show i=k by omega,hbw];exact decide_eq_false (Int.not_lt.2 h)
   ·obtain rfl:k=ss.length+1:=by omega
    have hkn:¬((ss.length+1:Nat):Int)≤(ss.length:Int):=by omega
    dsimp only[x122_0,x122_0d];simp only[↓hcsChR,entAs20,entLr20,entNd20,entWn20,hkn,go_sem];try simp only[hkn,td,reduceCtorEq]
    refine XW_for 2000 x122_1d [0,1,9,12,16] Nat (fun k=>[(11,.val Z1 (k:Int))])
     (fun k=>[(14,.row 89 Z8 ((List.range k).map fun k=>(legAt (N,A,C,Q,P,S1,S2,S3) c ss k).1))])
     (fun k=>k≤ss.length∧∀k',k'<k→(legAt (N,A,C,Q,P,S1,S2,S3) c ss k').2=true) (fun k=>ss.length-k) 0 ?_ ?_ ?_
    ·dsimp only[x122_1d];simp only[go_sem];try trivial
    ·exact ⟨Nat.zero_le _,fun k hk=>by omega⟩
    ·rintro k ⟨hk,hB'⟩;by_cases hkl:k<ss.length
     ·have w2:IntKind.i64.wrap ((k:Int)+1)=((k+1:Nat):Int):=i64_in _ (by omega);have hki:(k:Int)≤(ss.length:Int):=by omega
      have hki':((k+1:Nat):Int)≤(ss.length:Int):=by omega
      have hwd:((List.range (ss.length+1)).map (winF (N,A,C,Q,P,S1,S2,S3) c ss)).getD k (0,0)=winF (N,A,C,Q,P,S1,S2,S3) c ss k:=by
       rw[List.getD_eq_getElem?_getD,List.getElem?_map,List.getElem?_range (by omega)];rfl
      have hwl:((List.range (ss.length+1)).map (winF (N,A,C,Q,P,S1,S2,S3) c ss)).length=ss.length+1:=by rw[List.length_map,List.length_range]
      have hll:((List.range k).map fun k=>(legAt (N,A,C,Q,P,S1,S2,S3) c ss k).1).length=k:=by rw[List.length_map,List.length_range]
      have hLg:legF (N,A,C,Q,P,S1,S2,S3) (nodeF (N,A,C,Q,P,S1,S2,S3) c ss k) (nodeF (N,A,C,Q,P,S1,S2,S3) c ss (k+1)) (winF (N,A,C,Q,P,S1,S2,S3) c ss k)=legAt (N,A,C,Q,P,S1,S2,S3) c ss k:=rfl;have hwr:=win_rng ha (k:=k) (by omega);have hbk:(winF (N,A,C,Q,P,S1,S2,S3) c ss k).1≤(winF (N,A,C,Q,P,S1,S2,S3) c ss k).2:=by
       have:=hB k (by omega);unfold badW at this;have:=of_decide_eq_false this;omega
      have hkw:k<ss.length+1:=by omega
      dsimp only[x122_1,x122_1d];simp only[↓hcsChR,entAs20,entLr20,entNd20,entWn20,hkl,hki,hki',w2,hwd,hwl,hll,hLg,hw,ha,hkw,go_sem];simp only[hkl,hki,hki',w2,hwd,hwl,hll,hLg,hw,ha,hkw,td,reduceCtorEq];refine ⟨⟨hwr,hbk⟩,fun h=>?_,fun h=>⟨by omega,k+1,by omega,⟨by omega,fun k' hk'=>?_⟩,rfl,range_map_s _ k⟩⟩
      ·have hz:chainF (N,A,C,Q,P,S1,S2,S3) c ss=(([],[],[]),4):=by
        unfold chainF;rw[if_neg (by rw[ha];simp),if_neg ?_,if_pos (List.any_eq_true.2 ⟨k,List.mem_range.2 hkl,by rw[h];rfl⟩)];· rfl
        intro h';obtain ⟨i,hi,hb⟩:=List.any_eq_true.1 h';rw[hB i (List.mem_range.1 hi)] at hb;exact Bool.noConfusion hb
       rw[hz]
      ·rcases Nat.lt_or_ge k' k with q|q
       ·exact hB' k' q
       ·rw[show k'=k by omega];exact h
     ·obtain rfl:k=ss.length:=by omega
      dsimp only[x122_1,x122_1d];simp only[↓hcsChR,entAs20,entLr20,entNd20,entWn20,hkl,go_sem];simp only[hkl,td,reduceCtorEq];have hz:chainF (N,A,C,Q,P,S1,S2,S3) c ss=((winsF (N,A,C,Q,P,S1,S2,S3) c ss,legsF (N,A,C,Q,P,S1,S2,S3) c ss,ridesR (N,A,C,Q,P,S1,S2,S3) ss ss.length),0):=by
       unfold chainF;rw[if_neg (by rw[ha];simp),if_neg ?_,if_neg ?_]
       ·intro h';obtain ⟨i,hi,hb⟩:=List.any_eq_true.1 h';rw[hB' i (List.mem_range.1 hi)] at hb;exact Bool.noConfusion hb
       ·intro h';obtain ⟨i,hi,hb⟩:=List.any_eq_true.1 h';rw[hB i (List.mem_range.1 hi)] at hb;exact Bool.noConfusion hb
      refine XW_for 3000 x122_2d [0,1,9,12,14] Nat (fun k=>[(14,.val Z1 (k:Int))])
       (fun k=>[(16,.row 149 Z3 (ridesR (N,A,C,Q,P,S1,S2,S3) ss k))])
       (fun k=>k≤ss.length) (fun k=>ss.length-k) 0 ?_ ?_ ?_
      ·dsimp only[x122_2d];simp only[go_sem];try trivial
      ·exact Nat.zero_le _
      ·rintro k hk;by_cases hkl:k<ss.length
       ·have w2:IntKind.i64.wrap ((k:Int)+1)=((k+1:Nat):Int):=i64_in _ (by omega);have hq:=(hss.2 k hkl).1;have hat:=fun {m:Nat} (hm:m<ss.length)=>hss.at_eq hm;have hpd:=pick_drop hss hkl;have hrk:rideR (N,A,C,Q,P,S1,S2,S3) ss k=((k:Int)+1,atF ((ss.getD k dStop).1,false) ss+1,(Q.getD (ss.getD k dStop).1.toNat (0,0,0,0,0,0,0,0,0,0)).2.2.2.2.2.2.1):=rfl;have hry:=ridesR_yes (N,A,C,Q,P,S1,S2,S3) (ss:=ss) (j:=k);have hrn:=ridesR_no (N,A,C,Q,P,S1,S2,S3) (ss:=ss) (j:=k);have hrl:=ridesR_le (N,A,C,Q,P,S1,S2,S3) ss k;have hatk:=hat hkl;generalize hS:ss.getD k dStop=st at hq hpd hrk hry hrn hatk;have hS':ss.getD k (0,false)=st:=hS;obtain ⟨r,p⟩:=st;dsimp only at hq hpd hrk hry hrn;cases p with
        |false=>
         replace hrn:=hrn rfl;dsimp only[x122_2,x122_2d];simp only[↓hcsChR,entAs20,entLr20,entNd20,entWn20,hkl,w2,hS',go_sem];simp only[hkl,w2,hS',td,reduceCtorEq];exact ⟨k+1,by omega,by omega,rfl,hrn⟩
        |true=>
         obtain ⟨d,hd1,hd2,hd3⟩:=hpd rfl;replace hry:=hry rfl;have hatd:=hat hd2;rw[hd3] at hatd;rw[hatd] at hrk;obtain ⟨r,rfl⟩:∃z:Nat,r=z:=⟨r.toNat,by omega⟩;have hql:r<Q.length:=by omega
         rw[Int.toNat_natCast] at hrk;dsimp only[x122_2,x122_2d];simp only[↓hcsChR,entAs20,entLr20,entNd20,entWn20,hkl,w2,hS',go_sem];simp only[hkl,w2,hS',td,reduceCtorEq];refine XW_for 4000 x122_3d [0,1,9,12,14] Nat (fun m=>[(15,.val Z1 ((k+1+m:Nat):Int))])
          (fun m=>[(16,.row 149 Z3 (ridesR (N,A,C,Q,P,S1,S2,S3) ss k++if d<k+1+m then [rideR (N,A,C,Q,P,S1,S2,S3) ss k] else []))])
          (fun m=>k+1+m≤ss.length) (fun m=>ss.length-m) 0 ?_ ?_ ?_
         ·dsimp only[x122_3d];simp only[go_sem];try trivial
          rw[if_neg (by omega),List.append_nil]
         ·show k+1+0≤ss.length;omega
         ·rintro m hm;by_cases hml:k+1+m<ss.length
          ·have hmi:((k+1+m:Nat):Int)<(ss.length:Int):=by omega
           have w3:IntKind.i64.wrap (((k+1+m:Nat):Int)+1)=((k+1+(m+1):Nat):Int):=(i64_in _ (by omega)).trans (by omega);have hatm:=hat hml;generalize hT:ss.getD (k+1+m) dStop=t at hatm;have hT':ss.getD (k+1+m) (0,false)=t:=hT;obtain ⟨t1,t2⟩:=t;dsimp only[x122_3,x122_3d];simp only[↓hcsChR,entAs20,entLr20,entNd20,entWn20,hml,hmi,w2,w3,hS',hT',hkl,hql,go_sem];simp only[hml,hmi,w2,w3,hS',hT',hkl,hql,td,reduceCtorEq];have hk1:t1=(r:Int)→k+1+m=d:=fun h=>by
            subst h;cases t2 with
            |true=>have:=hatm.symm.trans hatk;omega
            |false=>have:=hatm.symm.trans hatd;omega
           have hk2:k+1+m=d→t1=(r:Int):=fun h=>by
            rw[h,hd3] at hT;exact (Prod.mk.inj hT).1.symm
           refine ⟨fun h=>?_,fun h=>⟨m+1,by omega,by omega,rfl,?_⟩⟩
           ·have e:=hk1 h;rw[if_neg (by omega),List.append_nil];refine ⟨by omega,m+1,by omega,by omega,rfl,?_⟩;rw[if_pos (by omega),hrk,show ((k+1:Nat):Int)=(k:Int)+1 by omega,show ((k+1+(m+1):Nat):Int)=(d:Int)+1 by omega]
           ·have e:k+1+m≠d:=fun e=>h (hk2 e);by_cases q:d<k+1+m
            ·rw[if_pos q,if_pos (by omega)]
            ·rw[if_neg q,if_neg (by omega)]
          ·have hmi:¬((k+1+m:Nat):Int)<(ss.length:Int):=by omega
           dsimp only[x122_3,x122_3d];simp only[↓hcsChR,entAs20,entLr20,entNd20,entWn20,hmi,w2,go_sem];simp only[hmi,w2,td,reduceCtorEq];rw[if_pos (by omega)];exact ⟨k+1,by omega,by omega,rfl,hry⟩
       ·obtain rfl:k=ss.length:=by omega
        dsimp only[x122_2,x122_2d];simp only[↓hcsChR,entAs20,entLr20,entNd20,entWn20,hkl,go_sem];simp only[hkl,hz,td,reduceCtorEq];rfl
end T
end Go.Proofs.YtpocfbfmjippnaaGreat
end
