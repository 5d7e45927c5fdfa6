/- Parts of the proof of the law; no condition. -/
import Derived.Test.YtpocfbfmjippnaaGreatF19
import Derived.Test.YtpocfbfmjippnaaGreatF20
set_option linter.all false
section
namespace Go.Proofs.YtpocfbfmjippnaaGreat
open Go.RowKit Go.IntWalk
namespace T
def entBnd:Ent:=⟨186,.cons Z16 (.cons Z1 (.cons Z1 .nil)),Z2,false,none,fun x=>(toArc x.1).rightB=true∧(0≤(x.2.1:Int)∧(x.2.1:Int)≤100000000)∧0≤(x.2.2.1:Int)∧(x.2.2.1:Int)≤100000000,fun x=>bndF x.1 x.2.1 x.2.2.1⟩
def csBnd:List Ent:=[] theorem hcsBnd (f:FuncId):findEnt csBnd f=findEnt [] f:=rfl
theorem conBnd:Con Tryz.prog entBnd:=by
 refine con_is (C:=csBnd) x186 (by kernel_rfl) (by simp[csBnd]) fun x hx hf=>?_;obtain ⟨⟨(g:Int),(u:Int),(L:List Int),(H:List Int)⟩,(f:Int),(t:Int),_⟩:=x;obtain ⟨hr,⟨h1,h2⟩,h3,h4⟩:=hx;replace hr:(toArc (g,u,L,H)).right:=of_decide_eq_true hr;replace h1:0≤f:=h1;replace h2:f≤100000000:=h2;replace h3:0≤t:=h3;replace h4:t≤100000000:=h4;obtain ⟨p,hp⟩:∃p:Nat,f / 60=p:=⟨(f / 60).toNat,by omega⟩;obtain ⟨q,hq⟩:∃q:Nat,t / 60=q:=⟨(t / 60).toNat,by omega⟩;have e1:IntKind.i64.wrap (f.tdiv 60)=(p:Int):=by
  rw[Int.tdiv_eq_ediv_of_nonneg h1,hp];exact i64_in _ (by omega)
 have e2:IntKind.i64.wrap (t.tdiv 60)=(q:Int):=by
  rw[Int.tdiv_eq_ediv_of_nonneg h3,hq];exact i64_in _ (by omega)
 have e3:IntKind.i64.wrap ((p:Int)+24)=((p+24:Nat):Int):=i64_in _ (by omega);have e4:IntKind.i64.wrap (((p+24:Nat):Int)-1)=((p+23:Nat):Int):=(i64_in _ (by omega)).trans (by omega);have e5:IntKind.i64.wrap ((p:Int)+1)=((p+1:Nat):Int):=i64_in _ (by omega);have e6:(if p+23<q then ((p+23:Nat):Int) else (q:Int))=((min (p+23) q:Nat):Int):=by split<;>omega
 have tm:∀k:Nat,(k:Int).tmod 24=((k % 24:Nat):Int):=fun k=>by
  rw[Int.tmod_eq_emod_of_nonneg (Int.natCast_nonneg k)];rfl
 have hn:hoursN f t=min (q-p) 23:=by unfold hoursN;rw[hp,hq];rfl
 have hL:L.length=24:=hr.2.2.1;have hH:H.length=24:=hr.2.2.2.1;have hm:∀k:Nat,k % 24<24:=fun k=>Nat.mod_lt _ (by omega);dsimp only[entBnd,x186,Z1,Z2,Z9,Za,Zb,Zc,Zf,Zg];simp only[↓hcsBnd,e1,e2,e3,e4,e5,e6,tm,hL,hH,hm,go_sem];try simp only[e1,e2,e3,e4,e5,e6,tm,hL,hH,hm,td,reduceCtorEq]
 generalize hM:min (p+23) q=m;have n60:¬(60:Int)=0:=by decide
 have n24:¬(24:Int)=0:=by decide
 refine ⟨n60,?_⟩;refine ⟨n24,?_⟩;have hM2:hoursN f t=m-p:=by omega
 refine XW_for 1000 x186_0d [0,1] Nat (fun j=>[(10,.val Z1 ((p+1+j:Nat):Int))]) (fun j=>[(26,.box 89 [.val Z1 (lowB L p j),.val Z1 (highB H p j)])]) (fun j=>j≤m-p) (fun j=>m-p-j) 0 ?_ ?_ ?_
 ·dsimp only[x186_0d];simp only[go_sem];exact ⟨rfl,rfl⟩
 ·exact Nat.zero_le _
 intro j hj;by_cases hj':j<m-p
 ·have hc1:((p+1+j:Nat):Int)≤(m:Int):=by omega
  have hc2:p+1+j≤m:=by omega
  have w2:IntKind.i64.wrap (((p+1+j:Nat):Int)+1)=((p+1+(j+1):Nat):Int):=(i64_in _ (by omega)).trans (by omega);dsimp only[x186_0,x186_0d,Z1,Z9,Za,Zb,Zc,Zf,Zg];simp only[↓hcsBnd,hc1,hc2,w2,tm,hL,hH,hm,go_sem];try simp only[hc1,hc2,w2,tm,hL,hH,hm,td,reduceCtorEq]
  refine ⟨n24,j+1,by omega,hj',rfl,?_,?_⟩
  ·show _=minI (lowB L p j) (L.getD ((p+(j+1)) % 24) 0);unfold minI;rw[show p+1+j=p+(j+1) by omega]
  show _=maxI (highB H p j) (H.getD ((p+(j+1)) % 24) 0);unfold maxI;rw[show p+1+j=p+(j+1) by omega]
 ·have hc1:¬((p+1+j:Nat):Int)≤(m:Int):=by omega
  have hc2:¬p+1+j≤m:=by omega
  dsimp only[x186_0,x186_0d,Z1,Z9,Za,Zb,Zc,Zf,Zg];simp only[↓hcsBnd,hc1,hc2,go_sem];try simp only[hc1,hc2,td,reduceCtorEq]
  unfold bndF;rw[hM2,hp,Int.toNat_natCast,show j=m-p by omega]
def entLg20:Ent:=⟨133,.cons Z23 (.cons Z1 (.cons Z1 (.cons Z2 .nil))),.cons Z2 (.cons .bool .nil),true,none,fun x=>rightP x.1=true∧((0≤(x.2.2.2.1:DWin).1∧(x.2.2.2.1:DWin).1≤1048576)∧0≤(x.2.2.2.1:DWin).2∧(x.2.2.2.1:DWin).2≤1048576)∧(x.2.2.2.1:DWin).1≤(x.2.2.2.1:DWin).2,fun x=>((legF x.1 x.2.1 x.2.2.1 x.2.2.2.1).1,(legF x.1 x.2.1 x.2.2.1 x.2.2.2.1).2,())⟩
def csLg2:List Ent:=[entEarly,entWay,entBnd] theorem hcsLg2 (f:FuncId):findEnt csLg2 f=findEnt [entEarly,entWay,entBnd] f:=rfl
theorem conLg20:Con Tryz.prog entLg20:=by
 refine con_is (C:=csLg2) x133 (by kernel_rfl) (by simp[csLg2,conEarly,conWay,conBnd]) fun x hx hf=>?_;obtain ⟨⟨(N:Int),(A:List DArc),(C:List DCar),(Q:List DReq),(P:List DPair),(S:DShift)⟩,(f:Int),(t:Int),⟨(e:Int),(l:Int)⟩,_⟩:=x;obtain ⟨hw,⟨⟨h1,h2⟩,h3,h4⟩,h5⟩:=hx;replace hw:rightP (N,A,C,Q,P,S)=true:=hw;replace h1:0≤e:=h1;replace h2:e≤1048576:=h2;replace h3:0≤l:=h3;replace h4:l≤1048576:=h4;replace h5:e≤l:=h5;have hn:=rightR_n (rightP_iff.1 hw).1;dsimp only at hn;by_cases hft:f=t
 ·subst hft;dsimp only[entLg20,x133,Z1,Z2,Z20,Za,Zb,Zc,Zd,Zg];simp only[↓hcsLg2,entEarly,entWay,entBnd,go_sem];try simp only[td,reduceCtorEq]
  unfold legF;rw[if_pos rfl]
 dsimp only[entLg20,x133,Z1,Z2,Z20,Za,Zb,Zc,Zd,Zg];simp only[↓hcsLg2,entEarly,entWay,entBnd,hft,go_sem];try simp only[hft,td,reduceCtorEq]
 refine ⟨by have:=earlyLen (rightP_iff.1 hw).1 f e true;dsimp only at this;omega,?_⟩;have hlf:legF (N,A,C,Q,P,S) f t (e,l)=((legWay (N,A,C,Q,P,S) f t (e,l)).foldl (legStep A e l) (0,0),decide (legWay (N,A,C,Q,P,S) f t (e,l)≠[])):=by
  unfold legF;rw[if_neg hft]
 have hbd:=leg_bd hw f t (e,l);have hin:∀i∈legWay (N,A,C,Q,P,S) f t (e,l),0≤i∧i<A.length:=fun i hi=>wayF_in i hi;dsimp only at hbd;have hWd:wayF (earlyF N A f e true).1 A t=legWay (N,A,C,Q,P,S) f t (e,l):=rfl;rw[hWd];generalize hWW:legWay (N,A,C,Q,P,S) f t (e,l)=W at hlf hbd hin;have hwl:W.length≤2000:=by rw[←hWW];exact legWay_len hw f t (e,l)
 refine XW_for 1000 x133_0d [0,1,2] Nat (fun j=>[(39,.val Z1 (j:Int))]) (fun j=>[(4,.box 89 [.val Z1 ((W.take j).foldl (legStep A e l) (0,0)).1,.val Z1 ((W.take j).foldl (legStep A e l) (0,0)).2])]) (fun j=>j≤W.length) (fun j=>W.length-j) 0 ?_ ?_ ?_
 ·dsimp only[x133_0d];simp only[go_sem];exact ⟨rfl,rfl,rfl⟩
 ·exact Nat.zero_le _
 intro j hj;by_cases hj':j<W.length
 ·have w2:IntKind.i64.wrap ((j:Int)+1)=((j+1:Nat):Int):=i64_in _ (by omega);have hmem:=getD_mem2 (d:=(0:Int)) hj';have hk:=hin _ hmem;have hts:W.take (j+1)=W.take j++[W.getD j 0]:=by
   rw[List.take_succ_eq_append_getElem hj'];simp[List.getD,hj']
  have hb:=hbd j;have hb2:=hbd (j+1);rw[hts,List.foldl_append] at hb2;generalize hS:W.getD j 0=k at hmem hk hts hb2;generalize hO:(W.take j).foldl (legStep A e l) (0,0)=out at hb hb2;obtain ⟨k,rfl⟩:∃z:Nat,k=z:=⟨k.toNat,by omega⟩;have hka:k<A.length:=by omega
  have hr:=(hn.2.2.2 _ (getD_mem2 (d:=((0,0,[],[]):DArc)) hka)).1;have hst:legStep A e l out (k:Int)=(out.1+(bndF (A.getD k (0,0,[],[])) (e+out.1) (l+out.2)).1,out.2+(bndF (A.getD k (0,0,[],[])) (e+out.1) (l+out.2)).2):=rfl;simp only[List.foldl_cons,List.foldl_nil,hst] at hb2;obtain ⟨o1,o2⟩:=out;dsimp only at hb hb2 hst;have w3:IntKind.i64.wrap (e+o1)=e+o1:=i64_in _ (by omega);have w4:IntKind.i64.wrap (l+o2)=l+o2:=i64_in _ (by omega);generalize hB:bndF (A.getD k (0,0,[],[])) (e+o1) (l+o2)=bb at hb2 hst;have hbl:=low_bd (show (toArc (A.getD k (0,0,[],[]))).right from of_decide_eq_true hr) ((e+o1) / 60).toNat (hoursN (e+o1) (l+o2));have w5:IntKind.i64.wrap (o1+bb.1)=o1+bb.1:=i64_in _ (by
   rw[←hB];unfold bndF;dsimp only at hbl⊢;omega)
  have w6:IntKind.i64.wrap (o2+bb.2)=o2+bb.2:=i64_in _ (by
   rw[←hB];unfold bndF;dsimp only at hbl⊢;omega)
  dsimp only[x133_0,x133_0d,Z1,Z16,Z2,Z20,Za,Zb,Zc,Zd,Zf,Zg];simp only[↓hcsLg2,entEarly,entWay,entBnd,hj',hS,hO,hka,hr,w2,w3,w4,hB,w5,w6,go_sem];try simp only[hj',hS,hO,hka,hr,w2,w3,w4,hB,w5,w6,td,reduceCtorEq]
  refine ⟨⟨⟨(by omega:(0:Int)≤e+o1),(by omega:e+o1≤(100000000:Int))⟩,(by omega:(0:Int)≤l+o2),(by omega:l+o2≤(100000000:Int))⟩,j+1,by omega,hj',rfl,?_⟩;rw[hts,List.foldl_append,hO];exact ⟨(congrArg Prod.fst hst).symm,(congrArg Prod.snd hst).symm⟩
 ·obtain rfl:j=W.length:=by omega
  dsimp only[x133_0,x133_0d,Z1,Z16,Z2,Z20,Za,Zb,Zc,Zd,Zf,Zg];simp only[↓hcsLg2,entEarly,entWay,entBnd,hj',go_sem];try simp only[hj',td,reduceCtorEq]
  rw[hlf];try rw[List.take_length]
  have:decide (0<(W.length:Int))=decide (W≠[]):=by
   rw[Bool.eq_iff_iff];simp[List.length_pos_iff]
  rw[this]
end T
end Go.Proofs.YtpocfbfmjippnaaGreat
end
