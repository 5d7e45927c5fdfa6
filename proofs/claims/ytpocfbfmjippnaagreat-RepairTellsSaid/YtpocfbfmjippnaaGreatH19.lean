/- Parts of the proof of the law; no condition. -/
import Derived.Test.YtpocfbfmjippnaaGreatH10
import Derived.Test.YtpocfbfmjippnaaGreatH17
import Derived.Test.YtpocfbfmjippnaaGreatH18
import Derived.Test.YtpocfbfmjippnaaGreatH20
set_option linter.all false
section
namespace Go.Proofs.YtpocfbfmjippnaaGreat
open Go.RowKit Go.IntWalk
namespace T
def entBnd:Ent:=⟨186,.cons Z11 (.cons Z1 (.cons Z1 .nil)),Z8,false,none,fun x=>(toArc x.1).rightB=true∧(0≤(x.2.1:Int)∧(x.2.1:Int)≤100000000)∧0≤(x.2.2.1:Int)∧(x.2.2.1:Int)≤100000000,fun x=>bndF x.1 x.2.1 x.2.2.1⟩
def csBnd:List Ent:=[] theorem hcsBnd (f:FuncId):findEnt csBnd f=findEnt [] f:=rfl
theorem conBnd:Con Tryz.prog entBnd:=by
 refine con_is (C:=csBnd) x186 (by kernel_rfl) (by simp[csBnd]) fun x hx hf=>?_;obtain ⟨⟨(g:Int),(u:Int),(L:List Int),(H:List Int)⟩,(f:Int),(t:Int),_⟩:=x;obtain ⟨hr,⟨h1,h2⟩,h3,h4⟩:=hx;replace hr:(toArc (g,u,L,H)).right:=of_decide_eq_true hr;replace h1:0≤f:=h1;replace h2:f≤100000000:=h2;replace h3:0≤t:=h3;replace h4:t≤100000000:=h4;obtain ⟨p,hp⟩:∃p:Nat,f / 60=p:=⟨(f / 60).toNat,by omega⟩;obtain ⟨q,hq⟩:∃q:Nat,t / 60=q:=⟨(t / 60).toNat,by omega⟩;have e1:IntKind.i64.wrap (f.tdiv 60)=(p:Int):=by
  rw[Int.tdiv_eq_ediv_of_nonneg h1,hp];exact i64_in _ (by omega)
 have e2:IntKind.i64.wrap (t.tdiv 60)=(q:Int):=by
  rw[Int.tdiv_eq_ediv_of_nonneg h3,hq];exact i64_in _ (by omega)
 have e3:IntKind.i64.wrap ((p:Int)+24)=((p+24:Nat):Int):=i64_in _ (by omega);have e4:IntKind.i64.wrap (((p+24:Nat):Int)-1)=((p+23:Nat):Int):=(i64_in _ (by omega)).trans (by omega);have e5:IntKind.i64.wrap ((p:Int)+1)=((p+1:Nat):Int):=i64_in _ (by omega);have e6:(if p+23<q then ((p+23:Nat):Int) else (q:Int))=((min (p+23) q:Nat):Int):=by split<;>omega
 have tm:∀k:Nat,(k:Int).tmod 24=((k % 24:Nat):Int):=fun k=>by
  rw[Int.tmod_eq_emod_of_nonneg (Int.natCast_nonneg k)];rfl
 have hn:hoursN f t=min (q-p) 23:=by unfold hoursN;rw[hp,hq];rfl
 have hL:L.length=24:=hr.2.2.1;have hH:H.length=24:=hr.2.2.2.1;have hm:∀k:Nat,k % 24<24:=fun k=>Nat.mod_lt _ (by omega);dsimp only[entBnd,x186];simp only[↓hcsBnd,e1,e2,e3,e4,e5,e6,tm,hL,hH,hm,go_sem];try simp only[e1,e2,e3,e4,e5,e6,tm,hL,hH,hm,td,reduceCtorEq]
 generalize hM:min (p+23) q=m;have n60:¬(60:Int)=0:=by decide
 have n24:¬(24:Int)=0:=by decide
 refine ⟨n60,?_⟩;refine ⟨n24,?_⟩;have hM2:hoursN f t=m-p:=by omega
 refine XW_for 1000 x186_0d [0,1] Nat (fun j=>[(10,.val Z1 ((p+1+j:Nat):Int))]) (fun j=>[(26,.box 89 [.val Z1 (lowB L p j),.val Z1 (highB H p j)])]) (fun j=>j≤m-p) (fun j=>m-p-j) 0 ?_ ?_ ?_
 ·dsimp only[x186_0d];simp only[go_sem];exact ⟨rfl,rfl⟩
 ·exact Nat.zero_le _
 intro j hj;by_cases hj':j<m-p
 ·have hc1:((p+1+j:Nat):Int)≤(m:Int):=by omega
  have hc2:p+1+j≤m:=by omega
  have w2:IntKind.i64.wrap (((p+1+j:Nat):Int)+1)=((p+1+(j+1):Nat):Int):=(i64_in _ (by omega)).trans (by omega);dsimp only[x186_0,x186_0d];simp only[↓hcsBnd,hc1,hc2,w2,tm,hL,hH,hm,go_sem];try simp only[hc1,hc2,w2,tm,hL,hH,hm,td,reduceCtorEq]
  refine ⟨n24,j+1,by omega,hj',rfl,?_,?_⟩
  ·show _=minI (lowB L p j) (L.getD ((p+(j+1)) % 24) 0);unfold minI;rw[show p+1+j=p+(j+1) by omega]
  show _=maxI (highB H p j) (H.getD ((p+(j+1)) % 24) 0);unfold maxI;rw[show p+1+j=p+(j+1) by omega]
 ·have hc1:¬((p+1+j:Nat):Int)≤(m:Int):=by omega
  have hc2:¬p+1+j≤m:=by omega
  dsimp only[x186_0,x186_0d];simp only[↓hcsBnd,hc1,hc2,go_sem];try simp only[hc1,hc2,td,reduceCtorEq]
  unfold bndF;rw[hM2,hp,Int.toNat_natCast,show j=m-p by omega]
def entLg20:Ent:=⟨133,.cons Z21 (.cons Z1 (.cons Z1 (.cons Z8 .nil))),.cons Z8 (.cons .bool .nil),true,none,fun x=>rightP x.1=true∧((0≤(x.2.2.2.1:DWin).1∧(x.2.2.2.1:DWin).1≤1048576)∧0≤(x.2.2.2.1:DWin).2∧(x.2.2.2.1:DWin).2≤1048576)∧(x.2.2.2.1:DWin).1≤(x.2.2.2.1:DWin).2,fun x=>((legF x.1 x.2.1 x.2.2.1 x.2.2.2.1).1,(legF x.1 x.2.1 x.2.2.1 x.2.2.2.1).2,())⟩
def csLg2:List Ent:=[entEarly,entWay,entBnd] theorem hcsLg2 (f:FuncId):findEnt csLg2 f=findEnt [entEarly,entWay,entBnd] f:=rfl
theorem conLg20:Con Tryz.prog entLg20:=by
 refine con_is (C:=csLg2) x133 (by kernel_rfl) (by simp[csLg2,conEarly,conWay,conBnd]) fun x hx hf=>?_;obtain ⟨⟨(N:Int),(A:List DArc),(C:List DCar),(Q:List DReq),(P:List DPair),(S:DShift)⟩,(f:Int),(t:Int),⟨(e:Int),(l:Int)⟩,_⟩:=x;obtain ⟨hw,⟨⟨h1,h2⟩,h3,h4⟩,h5⟩:=hx;replace hw:rightP (N,A,C,Q,P,S)=true:=hw;replace h1:0≤e:=h1;replace h2:e≤1048576:=h2;replace h3:0≤l:=h3;replace h4:l≤1048576:=h4;replace h5:e≤l:=h5;have hn:=rightR_n (rightP_iff.1 hw).1;dsimp only at hn;by_cases hft:f=t
 ·subst hft;dsimp only[entLg20,x133];simp only[↓hcsLg2,entEarly,entWay,entBnd,go_sem];try simp only[td,reduceCtorEq]
  unfold legF;rw[if_pos rfl]
 dsimp only[entLg20,x133];simp only[↓hcsLg2,entEarly,entWay,entBnd,hft,go_sem];try simp only[hft,td,reduceCtorEq]
 refine ⟨by have:=earlyLen (rightP_iff.1 hw).1 f e true;dsimp only at this;omega,?_⟩;have hlf:legF (N,A,C,Q,P,S) f t (e,l)=((legWay (N,A,C,Q,P,S) f t (e,l)).foldl (legStep A e l) (0,0),decide (legWay (N,A,C,Q,P,S) f t (e,l)≠[])):=by
  unfold legF;rw[if_neg hft]
 have hbd:=leg_bd hw f t (e,l);have hin:∀i∈legWay (N,A,C,Q,P,S) f t (e,l),0≤i∧i<A.length:=fun i hi=>wayF_in i hi;dsimp only at hbd;have hWd:wayF (earlyF N A f e true).1 A t=legWay (N,A,C,Q,P,S) f t (e,l):=rfl;rw[hWd];generalize hWW:legWay (N,A,C,Q,P,S) f t (e,l)=W at hlf hbd hin;have hwl:W.length≤2000:=by rw[←hWW];exact legWay_len hw f t (e,l)
 refine XW_for 1000 x133_0d [0,1,2] Nat (fun j=>[(39,.val Z1 (j:Int))]) (fun j=>[(4,.box 89 [.val Z1 ((W.take j).foldl (legStep A e l) (0,0)).1,.val Z1 ((W.take j).foldl (legStep A e l) (0,0)).2])]) (fun j=>j≤W.length) (fun j=>W.length-j) 0 ?_ ?_ ?_
 ·dsimp only[x133_0d];simp only[go_sem];exact ⟨rfl,rfl,rfl⟩
 ·exact Nat.zero_le _
 intro j hj;by_cases hj':j<W.length
 ·have w2:IntKind.i64.wrap ((j:Int)+1)=((j+1:Nat):Int):=i64_in _ (by omega);have hmem:=getD_mem2 (d:=(0:Int)) hj';have hk:=hin _ hmem;have hts:W.take (j+1)=W.take j++[W.getD j 0]:=by
   rw[List.take_succ_eq_append_getElem hj'];simp[List.getD,hj']
  have hb:=hbd j;have hb2:=hbd (j+1);rw[hts,List.foldl_append] at hb2;generalize hS:W.getD j 0=k at hmem hk hts hb2;generalize hO:(W.take j).foldl (legStep A e l) (0,0)=out at hb hb2;obtain ⟨k,rfl⟩:∃z:Nat,k=z:=⟨k.toNat,by omega⟩;have hka:k<A.length:=by omega
  have hr:=(hn.2.2.2 _ (getD_mem2 (d:=((0,0,[],[]):DArc)) hka)).1;have hst:legStep A e l out (k:Int)=(out.1+(bndF (A.getD k (0,0,[],[])) (e+out.1) (l+out.2)).1,out.2+(bndF (A.getD k (0,0,[],[])) (e+out.1) (l+out.2)).2):=rfl;simp only[List.foldl_cons,List.foldl_nil,hst] at hb2;obtain ⟨o1,o2⟩:=out;dsimp only at hb hb2 hst;have w3:IntKind.i64.wrap (e+o1)=e+o1:=i64_in _ (by omega);have w4:IntKind.i64.wrap (l+o2)=l+o2:=i64_in _ (by omega);generalize hB:bndF (A.getD k (0,0,[],[])) (e+o1) (l+o2)=bb at hb2 hst;have hbl:=low_bd (show (toArc (A.getD k (0,0,[],[]))).right from of_decide_eq_true hr) ((e+o1) / 60).toNat (hoursN (e+o1) (l+o2));have w5:IntKind.i64.wrap (o1+bb.1)=o1+bb.1:=i64_in _ (by
   rw[←hB];unfold bndF;dsimp only at hbl⊢;omega)
  have w6:IntKind.i64.wrap (o2+bb.2)=o2+bb.2:=i64_in _ (by
   rw[←hB];unfold bndF;dsimp only at hbl⊢;omega)
  dsimp only[x133_0,x133_0d];simp only[↓hcsLg2,entEarly,entWay,entBnd,hj',hS,hO,hka,hr,w2,w3,w4,hB,w5,w6,go_sem];try simp only[hj',hS,hO,hka,hr,w2,w3,w4,hB,w5,w6,td,reduceCtorEq]
  refine ⟨⟨⟨(by omega:(0:Int)≤e+o1),(by omega:e+o1≤(100000000:Int))⟩,(by omega:(0:Int)≤l+o2),(by omega:l+o2≤(100000000:Int))⟩,j+1,by omega,hj',rfl,?_⟩;rw[hts,List.foldl_append,hO];exact ⟨(congrArg Prod.fst hst).symm,(congrArg Prod.snd hst).symm⟩
 ·obtain rfl:j=W.length:=by omega
  dsimp only[x133_0,x133_0d];simp only[↓hcsLg2,entEarly,entWay,entBnd,hj',go_sem];try simp only[hj',td,reduceCtorEq]
  rw[hlf];try rw[List.take_length]
  have:decide (0<(W.length:Int))=decide (W≠[]):=by
   rw[Bool.eq_iff_iff];simp[List.length_pos_iff]
  rw[this]
def entAsk:Ent:=⟨82,.cons Z21 (.cons Z1 (.cons Z15 .nil)),.bool,false,none,fun _=>True,fun x=>asksF x.1 x.2.1 x.2.2.1⟩
def csAs:List Ent:=[entPlR,entPin,entRightS] theorem hcsAs (f:FuncId):findEnt csAs f=findEnt [entPlR,entPin,entRightS] f:=rfl
set_option maxHeartbeats 4000000 in
theorem conAsk:Con Tryz.prog entAsk:=by
 refine con_is (C:=csAs) x82 (by kernel_rfl) (by simp[csAs,conPlR,conPin,conRightS]) fun x hx hf=>?_;obtain ⟨⟨(N:Int),(A:List DArc),(C:List DCar),(Q:List DReq),(P:List DPair),(S1:Int),(S2:Int),(S3:Int)⟩,(c:Int),(ss:List DStop),_⟩:=x;cases hw:rightP (N,A,C,Q,P,S1,S2,S3) with
 |false=>
  have hz:asksF (N,A,C,Q,P,S1,S2,S3) c ss=false:=by unfold asksF;rw[hw];rfl
  dsimp only[entAsk,x82];simp only[↓hcsAs,entPlR,entPin,entRightS,undef,hw,hz,go_sem];try simp only[hw,hz,td,reduceCtorEq]
 |true=>
  have hcl:C.length≤600:=(rightP_iff.1 hw).2.1.1;have w:IntKind.i64.wrap ((C.length:Int)-1)=(C.length:Int)-1:=i64_in _ (by omega);have hz:asksF (N,A,C,Q,P,S1,S2,S3) c ss=(allIn ((C.length:Int)-1) [c]&&rightS ss Q):=by
   unfold asksF allIn;rw[hw,Bool.true_and];congr 1;rw[Bool.eq_iff_iff];simp;try omega
  cases h1:allIn ((C.length:Int)-1) [c] with
  |false=>
   rw[h1] at hz;dsimp only[entAsk,x82];simp only[↓hcsAs,entPlR,entPin,entRightS,undef,hw,hz,w,h1,go_sem];try simp only[hw,hz,w,h1,td,reduceCtorEq]
  |true=>
   rw[h1] at hz;dsimp only[entAsk,x82];simp only[↓hcsAs,entPlR,entPin,entRightS,undef,hw,hz,w,h1,go_sem];try simp only[hw,hz,w,h1,td,reduceCtorEq]
def entCh1:Ent:=⟨131,.cons Z3 (.cons Z3 .nil),(.int .i64),false,none,fun _=>True,fun x=>IntKind.i64.wrap ((x.1:DRide).1-(x.2.1:DRide).1)⟩
def csCh1:List Ent:=[] theorem hcsCh1 (f:FuncId):findEnt csCh1 f=findEnt [] f:=rfl
theorem conCh1:Con Tryz.prog entCh1:=by
 refine con_is (C:=csCh1) x131 (by kernel_rfl) (by simp[csCh1]) fun x hx hf=>?_;obtain ⟨⟨(a:Int),(b:Int),(d:Int)⟩,⟨(a':Int),(b':Int),(d':Int)⟩,_⟩:=x;dsimp only[entCh1,x131];simp only[↓hcsCh1,go_sem];try simp only[td,reduceCtorEq]
def entCh2:Ent:=⟨132,.cons Z1 (.cons Z29 (.cons Z28 (.cons (.ptr Z15) .nil))),(.int .i64),false,none,fun x=>(0≤(x.1:Int)∧(x.1:Int)≤(x.2.2.2.1:List DStop).length)∧RightS x.2.2.2.1 (x.2.2.1:DWorld).2.2.2.1,fun x=>if (x.1:Int)=0 then (x.2.1:DCar).2.1 else if ((x.2.2.2.1:List DStop).getD ((x.1:Int)-1).toNat dStop).2=true then (reqAt x.2.2.1 ((x.2.2.2.1:List DStop).getD ((x.1:Int)-1).toNat dStop).1).2.1 else (reqAt x.2.2.1 ((x.2.2.2.1:List DStop).getD ((x.1:Int)-1).toNat dStop).1).2.2.1⟩
def csCh2:List Ent:=[] theorem hcsCh2 (f:FuncId):findEnt csCh2 f=findEnt [] f:=rfl
theorem conCh2:Con Tryz.prog entCh2:=by
 refine con_is (C:=csCh2) x132 (by kernel_rfl) (by simp[csCh2]) fun x hx hf=>?_;obtain ⟨(k:Int),⟨(o:Int),(n:Int),(r:Int),(e:Int),(s:Int),(c:Int),(b:Int),(g:Int),(f:Int)⟩,⟨(N:Int),(A:List DArc),(C:List DCar),(Q:List DReq),(P:List DPair),(S1:Int),(S2:Int),(S3:Int)⟩,(ss:List DStop),_⟩:=x;obtain ⟨⟨h1,h2⟩,h3⟩:=hx;replace h1:0≤k:=h1;replace h2:k≤(ss.length:Int):=h2;replace h3:RightS ss Q:=h3;by_cases hk:k=0
 ·subst hk;dsimp only[entCh2,x132];simp only[↓hcsCh2,go_sem];try simp only[td,reduceCtorEq]
 obtain ⟨k,rfl⟩:∃z:Nat,k=((z+1:Nat):Int):=⟨k.toNat-1,by omega⟩;have hkl:k<ss.length:=by omega
 have w:IntKind.i64.wrap (((k+1:Nat):Int)-1)=(k:Int):=(i64_in _ (by have:=h3.1.1;omega)).trans (by omega);have w':(((k+1:Nat):Int)-1).toNat=k:=by omega
 have hq:=(h3.2 k hkl).1;generalize hS:ss.getD k dStop=st at hq;have hS':ss.getD k (0,false)=st:=hS;obtain ⟨r',p⟩:=st;dsimp only at hq;obtain ⟨r',rfl⟩:∃z:Nat,r'=z:=⟨r'.toNat,by omega⟩;have hql:r'<Q.length:=by omega
 dsimp only[entCh2,x132];simp only[↓hcsCh2,hk,w,w',hkl,hS',hql,go_sem];try simp only[hk,w,w',hkl,hS',hql,td,reduceCtorEq]
 exact ⟨fun h=>by rw[if_pos h];rfl,fun h=>by rw[if_neg (by rw[h];simp)];rfl⟩
end T
end Go.Proofs.YtpocfbfmjippnaaGreat
end
