/- Parts of the proof of the law; no condition. -/
import Derived.Test.YtcnfmabhghhdnaaGreatA40
import Derived.Test.YtcnfmabhghhdnaaGreatA41
set_option linter.all false
section
namespace Go.Proofs.YtcnfmabhghhdnaaGreat
open Go.RowKit Go.IntWalk
namespace T
theorem low_step (L:List Int) (p:Nat):∀j,(if L.getD ((p+j) % 24) 0<lowB L p (j-1) then L.getD ((p+j) % 24) 0 else lowB L p (j-1))=lowB L p (j+1-1)
 |0=>by
  show (if L.getD (p % 24) 0<L.getD (p % 24) 0 then L.getD (p % 24) 0 else L.getD (p % 24) 0)=L.getD (p % 24) 0;split<;>rfl
 |i+1=>rfl
theorem high_step (L:List Int) (p:Nat):∀j,(if highB L p (j-1)<L.getD ((p+j) % 24) 0 then L.getD ((p+j) % 24) 0 else highB L p (j-1))=highB L p (j+1-1)
 |0=>by
  show (if L.getD (p % 24) 0<L.getD (p % 24) 0 then L.getD (p % 24) 0 else L.getD (p % 24) 0)=L.getD (p % 24) 0;split<;>rfl
 |i+1=>rfl
def entBn20:Ent:=⟨202,.cons Z15 (.cons Z1 (.cons Z1 .nil)),.cons Z1 (.cons Z1 .nil),true,none,fun x=>(toArc x.1).rightB=true∧(0≤(x.2.1:Int)∧(x.2.1:Int)≤100000000)∧0≤(x.2.2.1:Int)∧(x.2.2.1:Int)≤100000000,fun x=>((bndF x.1 x.2.1 x.2.2.1).1,(bndF x.1 x.2.1 x.2.2.1).2,())⟩
def csBn2:List Ent:=[] theorem hcsBn2 (f:FuncId):findEnt csBn2 f=findEnt [] f:=rfl
theorem conBn20:Con Tryz.prog entBn20:=by
 refine con_is (C:=csBn2) x202 (by kernel_rfl) (by simp[csBn2]) fun x hx hf=>?_;obtain ⟨⟨(g:Int),(u:Int),(L:List Int),(H:List Int)⟩,(f:Int),(t:Int),_⟩:=x;obtain ⟨hr,⟨h1,h2⟩,h3,h4⟩:=hx;replace hr:(toArc (g,u,L,H)).right:=of_decide_eq_true hr;replace h1:0≤f:=h1;replace h2:f≤100000000:=h2;replace h3:0≤t:=h3;replace h4:t≤100000000:=h4;obtain ⟨p,hp⟩:∃p:Nat,f / 60=p:=⟨(f / 60).toNat,by omega⟩;obtain ⟨q,hq⟩:∃q:Nat,t / 60=q:=⟨(t / 60).toNat,by omega⟩;have e1:IntKind.i64.wrap (f.tdiv 60)=(p:Int):=by
  rw[Int.tdiv_eq_ediv_of_nonneg h1,hp];exact i64_in _ (by omega)
 have e2:IntKind.i64.wrap (t.tdiv 60)=(q:Int):=by
  rw[Int.tdiv_eq_ediv_of_nonneg h3,hq];exact i64_in _ (by omega)
 have e3:IntKind.i64.wrap ((p:Int)+24)=((p+24:Nat):Int):=i64_in _ (by omega);have tm:∀k:Nat,(k:Int).tmod 24=((k % 24:Nat):Int):=fun k=>by
  rw[Int.tmod_eq_emod_of_nonneg (Int.natCast_nonneg k)];rfl
 have hn:hoursN f t=min (q-p) 23:=by unfold hoursN;rw[hp,hq];rfl
 have hL:L.length=24:=hr.2.2.1;have hH:H.length=24:=hr.2.2.2.1;have hm:∀k:Nat,k % 24<24:=fun k=>Nat.mod_lt _ (by omega);have n60:¬(60:Int)=0:=by decide
 have n24:¬(24:Int)=0:=by decide
 dsimp only[entBn20,x202,Z1,Z10,Za,Zb,Zd,Zg];simp only[↓hcsBn2,e1,e2,e3,tm,hL,hH,hm,n60,n24,go_sem];try simp only[e1,e2,e3,tm,hL,hH,hm,n60,n24,td,reduceCtorEq]
 refine XW_for 1000 x202_0d [0] Nat (fun j=>[(10,.val Z1 ((p+j:Nat):Int)),(8,.val Z1 (lowB L p (j-1))),(9,.val Z1 (highB H p (j-1)))]) (fun _=>[]) (fun j=>j≤min (q+1-p) 25) (fun j=>25-j) 0 ?_ ?_ ?_
 ·dsimp only[x202_0d];simp only[go_sem];exact ⟨rfl,rfl,rfl⟩
 ·exact Nat.zero_le _
 intro j hj;by_cases hj':j<min (q+1-p) 25
 ·have hc1:((p+j:Nat):Int)≤(q:Int):=by omega
  have hc2:p+j≤q:=by omega
  have hc3:((p+j:Nat):Int)≤((p+24:Nat):Int):=by omega
  have hc4:p+j≤p+24:=by omega
  have w2:IntKind.i64.wrap (((p+j:Nat):Int)+1)=((p+(j+1):Nat):Int):=(i64_in _ (by omega)).trans (by omega);dsimp only[x202_0,x202_0d,Z1,Z10,Za,Zb,Zc,Zd,Ze,Zg];simp only[↓hcsBn2,e1,e2,e3,hc1,hc2,hc3,hc4,w2,tm,hL,hH,hm,n60,n24,go_sem];try simp only[e1,e2,e3,hc1,hc2,hc3,hc4,w2,tm,hL,hH,hm,n60,n24,td,reduceCtorEq]
  exact ⟨j+1,by omega,by omega,rfl,low_step L p j,high_step H p j⟩
 ·have hc:¬(p+j≤q∧p+j≤p+24):=by omega
  dsimp only[x202_0,x202_0d,Z1,Z10,Za,Zb,Zc,Zd,Ze,Zg];simp only[↓hcsBn2,e1,e2,e3,n60,n24,go_sem];try simp only[e1,e2,e3,n60,n24,td,reduceCtorEq]
  refine ⟨fun h=>absurd (show p+j≤q∧p+j≤p+24 by omega) hc,fun _=>?_⟩;have hj1:j-1=min (q-p) 24:=by omega
  unfold bndF;rw[hn,hp,Int.toNat_natCast,hj1,lowB_24 L p _ (Nat.min_le_right _ _),highB_24 H p _ (Nat.min_le_right _ _),show min (min (q-p) 24) 23=min (q-p) 23 by omega]
def entLr20:Ent:=⟨158,.cons Z24 (.cons Z1 (.cons Z1 (.cons Z2 .nil))),.cons Z2 (.cons .bool .nil),true,none,fun x=>rightP x.1=true∧((0≤(x.2.2.2.1:DWin).1∧(x.2.2.2.1:DWin).1≤1048576)∧0≤(x.2.2.2.1:DWin).2∧(x.2.2.2.1:DWin).2≤1048576)∧(x.2.2.2.1:DWin).1≤(x.2.2.2.1:DWin).2,fun x=>((legF x.1 x.2.1 x.2.2.1 x.2.2.2.1).1,(legF x.1 x.2.1 x.2.2.1 x.2.2.2.1).2,())⟩
def csLr2:List Ent:=[entREarly,entRWay,entBn20] theorem hcsLr2 (f:FuncId):findEnt csLr2 f=findEnt [entREarly,entRWay,entBn20] f:=rfl
theorem conLr20:Con Tryz.prog entLr20:=by
 refine con_is (C:=csLr2) x158 (by kernel_rfl) (by simp[csLr2,conREarly,conRWay,conBn20]) fun x hx hf=>?_;obtain ⟨⟨(N:Int),(A:List DArc),(C:List DCar),(Q:List DReq),(P:List DPair),(S:DShift)⟩,(f:Int),(t:Int),⟨(e:Int),(l:Int)⟩,_⟩:=x;obtain ⟨hw,⟨⟨h1,h2⟩,h3,h4⟩,h5⟩:=hx;replace hw:rightP (N,A,C,Q,P,S)=true:=hw;replace h1:0≤e:=h1;replace h2:e≤1048576:=h2;replace h3:0≤l:=h3;replace h4:l≤1048576:=h4;replace h5:e≤l:=h5;have hn:=rightR_n (rightP_iff.1 hw).1;dsimp only at hn;by_cases hft:f=t
 ·subst hft;dsimp only[entLr20,x158,Z1,Z18,Z2,Za,Zb,Zc,Zd,Zg,Zi];simp only[↓hcsLr2,entREarly,entRWay,entBn20,go_sem];try simp only[td,reduceCtorEq]
  unfold legF;rw[if_pos rfl]
 dsimp only[entLr20,x158,Z1,Z18,Z2,Za,Zb,Zc,Zd,Zg,Zi];simp only[↓hcsLr2,entREarly,entRWay,entBn20,hft,go_sem];try simp only[hft,td,reduceCtorEq]
 refine ⟨by have:=earlyLen (rightP_iff.1 hw).1 f e true;dsimp only at this;omega,?_⟩;have hlf:legF (N,A,C,Q,P,S) f t (e,l)=((legWay (N,A,C,Q,P,S) f t (e,l)).foldl (legStep A e l) (0,0),decide (legWay (N,A,C,Q,P,S) f t (e,l)≠[])):=by
  unfold legF;rw[if_neg hft]
 have hbd:=leg_bd hw f t (e,l);have hin:∀i∈legWay (N,A,C,Q,P,S) f t (e,l),0≤i∧i<A.length:=fun i hi=>wayF_in i hi;dsimp only at hbd;have hWd:wayF (earlyF N A f e true).1 A t=legWay (N,A,C,Q,P,S) f t (e,l):=rfl;rw[hWd];generalize hWW:legWay (N,A,C,Q,P,S) f t (e,l)=W at hlf hbd hin;have hwl:W.length≤2000:=by rw[←hWW];exact legWay_len hw f t (e,l)
 refine ⟨fun h0=>?_,fun h0=>?_⟩
 ·have:W=[]:=List.length_eq_zero_iff.1 (by omega);subst this;rw[hlf];rfl
 refine XW_for 1000 x158_0d [0,1,2] Nat (fun j=>[(14,.val Z1 (j:Int))]) (fun j=>[(30,.box 85 [.val Z1 ((W.take j).foldl (legStep A e l) (0,0)).1,.val Z1 ((W.take j).foldl (legStep A e l) (0,0)).2])]) (fun j=>j≤W.length) (fun j=>W.length-j) 0 ?_ ?_ ?_
 ·dsimp only[x158_0d];simp only[go_sem];exact ⟨rfl,rfl,rfl⟩
 ·exact Nat.zero_le _
 intro j hj;have hji:j<W.length→(j:Int)<(W.length:Int):=fun h=>by omega
 by_cases hj':j<W.length
 ·have w2:IntKind.i64.wrap ((j:Int)+1)=((j+1:Nat):Int):=i64_in _ (by omega);have hmem:=getD_mem2 (d:=(0:Int)) hj';have hk:=hin _ hmem;have hts:W.take (j+1)=W.take j++[W.getD j 0]:=by
   rw[List.take_succ_eq_append_getElem hj'];simp[List.getD,hj']
  have hb:=hbd j;have hb2:=hbd (j+1);rw[hts,List.foldl_append] at hb2;generalize hS:W.getD j 0=k at hmem hk hts hb2;generalize hO:(W.take j).foldl (legStep A e l) (0,0)=out at hb hb2;obtain ⟨k,rfl⟩:∃z:Nat,k=z:=⟨k.toNat,by omega⟩;have hka:k<A.length:=by omega
  have hr:=(hn.2.2.2 _ (getD_mem2 (d:=((0,0,[],[]):DArc)) hka)).1;have hst:legStep A e l out (k:Int)=(out.1+(bndF (A.getD k (0,0,[],[])) (e+out.1) (l+out.2)).1,out.2+(bndF (A.getD k (0,0,[],[])) (e+out.1) (l+out.2)).2):=rfl;simp only[List.foldl_cons,List.foldl_nil,hst] at hb2;obtain ⟨o1,o2⟩:=out;dsimp only at hb hb2 hst;have w3:IntKind.i64.wrap (e+o1)=e+o1:=i64_in _ (by omega);have w4:IntKind.i64.wrap (l+o2)=l+o2:=i64_in _ (by omega);generalize hB:bndF (A.getD k (0,0,[],[])) (e+o1) (l+o2)=bb at hb2 hst;have hbl:=low_bd (show (toArc (A.getD k (0,0,[],[]))).right from of_decide_eq_true hr) ((e+o1) / 60).toNat (hoursN (e+o1) (l+o2));have w5:IntKind.i64.wrap (o1+bb.1)=o1+bb.1:=i64_in _ (by
   rw[←hB];unfold bndF;dsimp only at hbl⊢;omega)
  have w6:IntKind.i64.wrap (o2+bb.2)=o2+bb.2:=i64_in _ (by
   rw[←hB];unfold bndF;dsimp only at hbl⊢;omega)
  dsimp only[x158_0,x158_0d,Z1,Z15,Z18,Za,Zb,Zc,Zf,Zg];simp only[↓hcsLr2,entREarly,entRWay,entBn20,hj',hji hj',hS,hO,hka,hr,w2,w3,w4,hB,w5,w6,go_sem];try simp only[hj',hji hj',hS,hO,hka,hr,w2,w3,w4,hB,w5,w6,td,reduceCtorEq]
  refine ⟨⟨⟨(by omega:(0:Int)≤e+o1),(by omega:e+o1≤(100000000:Int))⟩,(by omega:(0:Int)≤l+o2),(by omega:l+o2≤(100000000:Int))⟩,j+1,by omega,hj',rfl,?_⟩;rw[hts,List.foldl_append,hO];exact ⟨(congrArg Prod.fst hst).symm,(congrArg Prod.snd hst).symm⟩
 ·obtain rfl:j=W.length:=by omega
  dsimp only[x158_0,x158_0d,Z1,Z15,Z18,Za,Zb,Zc,Zf,Zg];simp only[↓hcsLr2,entREarly,entRWay,entBn20,hj',go_sem];try simp only[hj',td,reduceCtorEq]
  rw[hlf];try rw[List.take_length]
  rw[show decide (W≠[])=true from decide_eq_true fun z=>h0 (by rw[z];rfl)]
end T
end Go.Proofs.YtcnfmabhghhdnaaGreat
end
