/- Parts of the proof of the law; no condition. -/
import Derived.Test.YtpocfbfmjippnaaGreatH31
set_option linter.all false
section
namespace Go.Proofs.YtpocfbfmjippnaaGreat
open Go.RowKit Go.IntWalk
namespace T
def entREarly:Ent:=⟨202,.cons Z1 (.cons Z13 (.cons Z1 (.cons Z1 (.cons .bool .nil)))),.cons Z9 (.cons Z1 .nil),true,none,fun _=>True,fun x=>earlyF x.1 x.2.1 x.2.2.1 x.2.2.2.1 x.2.2.2.2.1⟩
def csRe:List Ent:=[entRRoad,entTimeR,entNone,entRPass] theorem hcsRe (f:FuncId):findEnt csRe f=findEnt [entRRoad,entTimeR,entNone,entRPass] f:=rfl
theorem conREarly:Con Tryz.prog entREarly:=by
 refine con_is (C:=csRe) x202 (by kernel_rfl) (by simp[csRe,conRRoad,conTimeR,conNone,conRPass]) fun x hx hf=>?_;obtain ⟨(n:Int),(A:List DArc),(src:Int),(start:Int),(hi:Bool),_⟩:=x;dsimp only[entREarly,x202];simp only[↓hcsRe,entRRoad,entTimeR,entNone,entRPass,go_sem];simp only[td,reduceCtorEq];try dsimp only[Ty.den]
 refine ⟨fun h=>?_,fun h=>?_⟩
 ·unfold earlyF;rw[if_pos];cases h1:rightR n A with
  |false=>rfl
  |true=>
   rw[Bool.true_and,Bool.and_eq_false_iff,Bool.and_eq_false_iff,decide_eq_false_iff_not,decide_eq_false_iff_not];rcases h with ((h|h)|h)|h
   ·rw[h1] at h;cases h
   ·exact .inl (by omega)
   ·exact .inr (.inl (by omega))
   ·exact .inr (.inr h)
 obtain ⟨⟨n1,n2⟩,hAl,hall⟩:=rightR_all h.1.1.1;obtain ⟨n,rfl⟩:∃m:Nat,n=m:=⟨n.toNat,by omega⟩;obtain ⟨src,rfl⟩:∃m:Nat,src=m:=⟨src.toNat,by omega⟩;refine ⟨by omega,by omega,⟨⟨by omega,by rw[List.length_replicate];omega⟩,by rw[List.length_replicate];omega⟩,?_⟩;have e0:(List.replicate n ((-1:Int),(-1:Int))).getD src (0,0)=(-1,-1):=by
  rw[List.getD_eq_getElem?_getD,List.getElem?_replicate,if_pos (by omega)];rfl
 simp only[Int.toNat_natCast,e0];refine XW_for 1000 x202_0d [21,24] (List DLab×List Bool) (fun _=>[]) (fun s=>[(21,.row 263 Z8 s.1),(24,.row 4 .bool s.2)])
  (fun s=>s.1.length=n∧s.2.length=n∧runF false (moveE A hi) A.length (s.2.count false) s.1 s.2=searchF false (moveE A hi) A.length n src start) (fun s=>s.2.count false) ((List.replicate n ((-1:Int),(-1:Int))).set src (start,-1),List.replicate n false) ?_ ?_ ?_
 ·dsimp only[x202_0d];simp only[go_sem]
 ·exact ⟨by simp,by simp,by simp[searchF]⟩
 ·rintro ⟨L,S⟩ ⟨hL,hS,hrun⟩;dsimp only at hL hS hrun;dsimp only[x202_0,x202_0d];simp only[↓hcsRe,entRRoad,entTimeR,entNone,entRPass,go_sem];try simp only[td,reduceCtorEq]
  refine XW_for 2000 x202_1d [21,24] Nat (fun j=>[(14,.val Z1 (pickTo false L S j)),(15,.val Z1 (j:Int))]) (fun _=>[]) (fun j=>j≤n) (fun j=>n-j) 0 ?_ ?_ ?_
  ·dsimp only[x202_1d];simp only[go_sem];exact ⟨rfl,rfl⟩
  ·exact Nat.zero_le n
  ·intro j hj;dsimp only[x202_1,x202_1d];simp only[↓hcsRe,entRRoad,entTimeR,entNone,entRPass,go_sem];try simp only[td,reduceCtorEq]
   have hbd:=pickTo_bd false L S j;have hpu:=pickTo_un false L S j;have w2:IntKind.i64.wrap ((j:Int)+1)=((j+1:Nat):Int):=i64_in _ (by omega);refine ⟨fun hj'=>⟨⟨by omega,by omega,fun h=>⟨h,by omega⟩,fun h=>⟨h,by omega⟩,fun h=>⟨h,by omega⟩,fun h=>⟨h,by omega⟩,fun h=>⟨h,by rw[if_neg (by omega)];omega⟩,fun h=>⟨h,by rw[if_neg (by omega)];omega⟩,fun h=>⟨h,fun h'=>⟨h,h'⟩⟩⟩,fun h=>⟨j+1,by omega,by omega,?_,w2⟩,fun h=>⟨j+1,by omega,by omega,?_,w2⟩⟩,fun hj'=>?_⟩
   ·have hq:pickTo false L S j<0∨betterB false (L.getD j (0,0)).1 (L.getD (pickTo false L S j).toNat (0,0)).1=true:=by
     by_cases hp:pickTo false L S j<0
     ·exact .inl hp
     ·refine .inr ?_;have h2:=h.2;rw[if_neg hp] at h2;unfold betterB;rw[if_neg (by have:=(hpu (by omega)).2;omega),if_neg (by decide)];exact decide_eq_true (by omega)
    rw[pickTo,if_pos ⟨h.1.1,h.1.2,hq⟩]
   ·rw[pickTo,if_neg];rintro ⟨h1,h2,h3⟩;have h4:=h ⟨h1,h2⟩;rcases h3 with h3|h3
    ·omega
    ·rw[if_neg (by omega)] at h4;unfold betterB at h3;rw[if_neg (by have:=(hpu (by omega)).2;omega),if_neg (by decide)] at h3;have:=of_decide_eq_true h3;omega
   have ej:j=L.length:=by omega
   subst ej;refine ⟨fun hp=>?_,fun hp=>⟨⟨⟨hp,by omega⟩,by omega⟩,?_⟩⟩
   ·rw[←runF_end hp,hrun];unfold earlyF;rw[if_neg]
    ·rfl
    ·rw[h.1.1.1,decide_eq_true h.1.1.2,decide_eq_true h.1.2,h.2];simp
   obtain ⟨u,hu⟩:∃u:Nat,pickTo false L S L.length=u:=⟨(pickTo false L S L.length).toNat,by omega⟩;have hgo:=runF_go (E:=moveE A hi) (m:=A.length) (by omega) hu;have hun:=(pickTo_un false L S L.length hp).1;rw[hu] at hun;replace hun:S.getD u false=false:=hun;rw[hu] at hbd hp⊢;clear hu hp hpu;rw[show (u:Int).toNat=u from rfl];refine XW_for 3000 x202_2d [21,24] Nat (fun j=>[(16,.val Z1 (j:Int))]) (fun j=>[(21,.row 263 Z8 (relaxTo false (moveE A hi) (S.set u true) u j L))]) (fun j=>j≤A.length) (fun j=>A.length-j) 0 ?_ ?_ ?_
   ·dsimp only[x202_2d];simp only[go_sem];exact ⟨rfl,rfl⟩
   ·exact Nat.zero_le _
   ·intro j hj;dsimp only[x202_2,x202_2d];have hl:=relaxTo_length (late:=false) (E:=moveE A hi) (S:=S.set u true) (u:=u) (L:=L) j;simp only[↓hcsRe,entRRoad,entTimeR,entNone,entRPass,go_sem];try simp only[td,reduceCtorEq]
    have w2:IntKind.i64.wrap ((j:Int)+1)=((j+1:Nat):Int):=i64_in _ (by omega);have hk:j<A.length→_:=fun h=>hall (A.getD j (0,0,[],[])) (by rw[List.getD_eq_getElem?_getD,List.getElem?_eq_getElem h];exact List.getElem_mem _);have e1:((moveE A hi j).1=u→relaxTo false (moveE A hi) (S.set u true) u (j+1) L=reachF false (S.set u true) (relaxTo false (moveE A hi) (S.set u true) u j L) (moveE A hi j).2.1.toNat ((moveE A hi j).2.2 ((relaxTo false (moveE A hi) (S.set u true) u j L).getD u (0,0)).1) j)∧(¬(moveE A hi j).1=u→relaxTo false (moveE A hi) (S.set u true) u (j+1) L=relaxTo false (moveE A hi) (S.set u true) u j L):=⟨fun h=>if_pos h,fun h=>if_neg h⟩;dsimp only[moveE] at e1;have hs:(S.set u true).length=n:=by rw[List.length_set];exact hS
    refine ⟨fun hjl=>?_,fun hjl=>?_⟩
    ·replace hk:=hk hjl;generalize relaxTo false (moveE A hi) (S.set u true) u j L=R at hl e1⊢;generalize (toArc (A.getD j (0,0,[],[]))).passF hi (R.getD u (0,0)).1=t at e1⊢;generalize (A.getD j (0,0,[],[])).2.1=v at e1 hk⊢;have hR:R.length=n:=by omega
     have hv:v.toNat<n:=by omega
     generalize S.set u true=S2 at*;refine ⟨hjl,⟨hjl,fun h=>⟨h,by omega⟩,fun h=>⟨h,by omega⟩⟩,fun h1=>⟨j+1,by omega,by omega,w2,?_⟩,fun hc=>⟨⟨hjl,by omega⟩,?_,fun h1=>⟨by omega,j+1,by omega,by omega,w2,?_⟩,fun h1=>⟨j+1,by omega,by omega,w2,?_⟩⟩⟩
     ·by_cases hk1:(A.getD j (0,0,[],[])).1=(u:Int)
      ·rw[e1.1 hk1,reachF,if_pos (.inl (h1.resolve_left (fun h2=>h2 hk1)))]
      ·rw[e1.2 hk1]
     ·refine ⟨?_,?_,?_,?_,?_,?_,?_,?_,?_,?_,?_⟩<;>first|exact fun h=>⟨h,by omega⟩|exact fun h=>⟨h,fun h'=>⟨h,h'⟩⟩
     ·rw[e1.1 hc.1,reachF,if_neg (by rw[hc.2,h1.1];simp),if_pos];rcases h1.2 with (h2|h2)|h2
      ·left;unfold betterB;rw[if_pos h2]
      ·left;unfold betterB;split
       ·rfl
       ·exact decide_eq_true h2
      ·exact .inr h2
     ·rw[e1.1 hc.1,reachF];split
      ·rfl
      ·rename_i h2;rw[not_or] at h2;have h3:=h1 (by simpa using h2.2);rw[if_neg];rintro (h4|h4)
       ·unfold betterB at h4;rw[if_neg (by omega),if_neg (by decide)] at h4;have:=of_decide_eq_true h4;omega
       ·have:=h3.2 h4.1;omega
    ·have ej:j=A.length:=by omega
     subst ej;refine ⟨(relaxTo false (moveE A hi) (S.set u true) u A.length L,S.set u true),?_,⟨by rw[relaxTo_length];exact hL,hs,by rw[←hrun,hgo]⟩,rfl,rfl⟩;have:=count_settle (S:=S) (u:=u) (by omega) hun;dsimp only;omega
theorem low_step (L:List Int) (p:Nat):∀j,(if L.getD ((p+j) % 24) 0<lowB L p (j-1) then L.getD ((p+j) % 24) 0 else lowB L p (j-1))=lowB L p (j+1-1)
 |0=>by
  show (if L.getD (p % 24) 0<L.getD (p % 24) 0 then L.getD (p % 24) 0 else L.getD (p % 24) 0)=L.getD (p % 24) 0;split<;>rfl
 |i+1=>rfl
theorem high_step (L:List Int) (p:Nat):∀j,(if highB L p (j-1)<L.getD ((p+j) % 24) 0 then L.getD ((p+j) % 24) 0 else highB L p (j-1))=highB L p (j+1-1)
 |0=>by
  show (if L.getD (p % 24) 0<L.getD (p % 24) 0 then L.getD (p % 24) 0 else L.getD (p % 24) 0)=L.getD (p % 24) 0;split<;>rfl
 |i+1=>rfl
def entBn20:Ent:=⟨204,.cons Z11 (.cons Z1 (.cons Z1 .nil)),.cons Z1 (.cons Z1 .nil),true,none,fun x=>(toArc x.1).rightB=true∧(0≤(x.2.1:Int)∧(x.2.1:Int)≤100000000)∧0≤(x.2.2.1:Int)∧(x.2.2.1:Int)≤100000000,fun x=>((bndF x.1 x.2.1 x.2.2.1).1,(bndF x.1 x.2.1 x.2.2.1).2,())⟩
def csBn2:List Ent:=[] theorem hcsBn2 (f:FuncId):findEnt csBn2 f=findEnt [] f:=rfl
theorem conBn20:Con Tryz.prog entBn20:=by
 refine con_is (C:=csBn2) x204 (by kernel_rfl) (by simp[csBn2]) fun x hx hf=>?_;obtain ⟨⟨(g:Int),(u:Int),(L:List Int),(H:List Int)⟩,(f:Int),(t:Int),_⟩:=x;obtain ⟨hr,⟨h1,h2⟩,h3,h4⟩:=hx;replace hr:(toArc (g,u,L,H)).right:=of_decide_eq_true hr;replace h1:0≤f:=h1;replace h2:f≤100000000:=h2;replace h3:0≤t:=h3;replace h4:t≤100000000:=h4;obtain ⟨p,hp⟩:∃p:Nat,f / 60=p:=⟨(f / 60).toNat,by omega⟩;obtain ⟨q,hq⟩:∃q:Nat,t / 60=q:=⟨(t / 60).toNat,by omega⟩;have e1:IntKind.i64.wrap (f.tdiv 60)=(p:Int):=by
  rw[Int.tdiv_eq_ediv_of_nonneg h1,hp];exact i64_in _ (by omega)
 have e2:IntKind.i64.wrap (t.tdiv 60)=(q:Int):=by
  rw[Int.tdiv_eq_ediv_of_nonneg h3,hq];exact i64_in _ (by omega)
 have e3:IntKind.i64.wrap ((p:Int)+24)=((p+24:Nat):Int):=i64_in _ (by omega);have tm:∀k:Nat,(k:Int).tmod 24=((k % 24:Nat):Int):=fun k=>by
  rw[Int.tmod_eq_emod_of_nonneg (Int.natCast_nonneg k)];rfl
 have hn:hoursN f t=min (q-p) 23:=by unfold hoursN;rw[hp,hq];rfl
 have hL:L.length=24:=hr.2.2.1;have hH:H.length=24:=hr.2.2.2.1;have hm:∀k:Nat,k % 24<24:=fun k=>Nat.mod_lt _ (by omega);have n60:¬(60:Int)=0:=by decide
 have n24:¬(24:Int)=0:=by decide
 dsimp only[entBn20,x204];simp only[↓hcsBn2,e1,e2,e3,tm,hL,hH,hm,n60,n24,go_sem];try simp only[e1,e2,e3,tm,hL,hH,hm,n60,n24,td,reduceCtorEq]
 refine XW_for 1000 x204_0d [0] Nat (fun j=>[(10,.val Z1 ((p+j:Nat):Int)),(8,.val Z1 (lowB L p (j-1))),(9,.val Z1 (highB H p (j-1)))]) (fun _=>[]) (fun j=>j≤min (q+1-p) 25) (fun j=>25-j) 0 ?_ ?_ ?_
 ·dsimp only[x204_0d];simp only[go_sem];exact ⟨rfl,rfl,rfl⟩
 ·exact Nat.zero_le _
 intro j hj;by_cases hj':j<min (q+1-p) 25
 ·have hc1:((p+j:Nat):Int)≤(q:Int):=by omega
  have hc2:p+j≤q:=by omega
  have hc3:((p+j:Nat):Int)≤((p+24:Nat):Int):=by omega
  have hc4:p+j≤p+24:=by omega
  have w2:IntKind.i64.wrap (((p+j:Nat):Int)+1)=((p+(j+1):Nat):Int):=(i64_in _ (by omega)).trans (by omega);dsimp only[x204_0,x204_0d];simp only[↓hcsBn2,e1,e2,e3,hc1,hc2,hc3,hc4,w2,tm,hL,hH,hm,n60,n24,go_sem];try simp only[e1,e2,e3,hc1,hc2,hc3,hc4,w2,tm,hL,hH,hm,n60,n24,td,reduceCtorEq]
  exact ⟨j+1,by omega,by omega,rfl,low_step L p j,high_step H p j⟩
 ·have hc:¬(p+j≤q∧p+j≤p+24):=by omega
  dsimp only[x204_0,x204_0d];simp only[↓hcsBn2,e1,e2,e3,n60,n24,go_sem];try simp only[e1,e2,e3,n60,n24,td,reduceCtorEq]
  refine ⟨fun h=>absurd (show p+j≤q∧p+j≤p+24 by omega) hc,fun _=>?_⟩;have hj1:j-1=min (q-p) 24:=by omega
  unfold bndF;rw[hn,hp,Int.toNat_natCast,hj1,lowB_24 L p _ (Nat.min_le_right _ _),highB_24 H p _ (Nat.min_le_right _ _),show min (min (q-p) 24) 23=min (q-p) 23 by omega]
def entLr20:Ent:=⟨169,.cons Z21 (.cons Z1 (.cons Z1 (.cons Z8 .nil))),.cons Z8 (.cons .bool .nil),true,none,fun x=>rightP x.1=true∧((0≤(x.2.2.2.1:DWin).1∧(x.2.2.2.1:DWin).1≤1048576)∧0≤(x.2.2.2.1:DWin).2∧(x.2.2.2.1:DWin).2≤1048576)∧(x.2.2.2.1:DWin).1≤(x.2.2.2.1:DWin).2,fun x=>((legF x.1 x.2.1 x.2.2.1 x.2.2.2.1).1,(legF x.1 x.2.1 x.2.2.1 x.2.2.2.1).2,())⟩
def csLr2:List Ent:=[entREarly,entRWay,entBn20] theorem hcsLr2 (f:FuncId):findEnt csLr2 f=findEnt [entREarly,entRWay,entBn20] f:=rfl
theorem conLr20:Con Tryz.prog entLr20:=by
 refine con_is (C:=csLr2) x169 (by kernel_rfl) (by simp[csLr2,conREarly,conRWay,conBn20]) fun x hx hf=>?_;obtain ⟨⟨(N:Int),(A:List DArc),(C:List DCar),(Q:List DReq),(P:List DPair),(S:DShift)⟩,(f:Int),(t:Int),⟨(e:Int),(l:Int)⟩,_⟩:=x;obtain ⟨hw,⟨⟨h1,h2⟩,h3,h4⟩,h5⟩:=hx;replace hw:rightP (N,A,C,Q,P,S)=true:=hw;replace h1:0≤e:=h1;replace h2:e≤1048576:=h2;replace h3:0≤l:=h3;replace h4:l≤1048576:=h4;replace h5:e≤l:=h5;have hn:=rightR_n (rightP_iff.1 hw).1;dsimp only at hn;by_cases hft:f=t
 ·subst hft;dsimp only[entLr20,x169];simp only[↓hcsLr2,entREarly,entRWay,entBn20,go_sem];try simp only[td,reduceCtorEq]
  unfold legF;rw[if_pos rfl]
 dsimp only[entLr20,x169];simp only[↓hcsLr2,entREarly,entRWay,entBn20,hft,go_sem];try simp only[hft,td,reduceCtorEq]
 refine ⟨by have:=earlyLen (rightP_iff.1 hw).1 f e true;dsimp only at this;omega,?_⟩;have hlf:legF (N,A,C,Q,P,S) f t (e,l)=((legWay (N,A,C,Q,P,S) f t (e,l)).foldl (legStep A e l) (0,0),decide (legWay (N,A,C,Q,P,S) f t (e,l)≠[])):=by
  unfold legF;rw[if_neg hft]
 have hbd:=leg_bd hw f t (e,l);have hin:∀i∈legWay (N,A,C,Q,P,S) f t (e,l),0≤i∧i<A.length:=fun i hi=>wayF_in i hi;dsimp only at hbd;have hWd:wayF (earlyF N A f e true).1 A t=legWay (N,A,C,Q,P,S) f t (e,l):=rfl;rw[hWd];generalize hWW:legWay (N,A,C,Q,P,S) f t (e,l)=W at hlf hbd hin;have hwl:W.length≤2000:=by rw[←hWW];exact legWay_len hw f t (e,l)
 refine ⟨fun h0=>?_,fun h0=>?_⟩
 ·have:W=[]:=List.length_eq_zero_iff.1 (by omega);subst this;rw[hlf];rfl
 refine XW_for 1000 x169_0d [0,1,2] Nat (fun j=>[(14,.val Z1 (j:Int))]) (fun j=>[(30,.box 89 [.val Z1 ((W.take j).foldl (legStep A e l) (0,0)).1,.val Z1 ((W.take j).foldl (legStep A e l) (0,0)).2])]) (fun j=>j≤W.length) (fun j=>W.length-j) 0 ?_ ?_ ?_
 ·dsimp only[x169_0d];simp only[go_sem];exact ⟨rfl,rfl,rfl⟩
 ·exact Nat.zero_le _
 intro j hj;have hji:j<W.length→(j:Int)<(W.length:Int):=fun h=>by omega
 by_cases hj':j<W.length
 ·have w2:IntKind.i64.wrap ((j:Int)+1)=((j+1:Nat):Int):=i64_in _ (by omega);have hmem:=getD_mem2 (d:=(0:Int)) hj';have hk:=hin _ hmem;have hts:W.take (j+1)=W.take j++[W.getD j 0]:=by
   rw[List.take_succ_eq_append_getElem hj'];simp[List.getD,hj']
  have hb:=hbd j;have hb2:=hbd (j+1);rw[hts,List.foldl_append] at hb2;generalize hS:W.getD j 0=k at hmem hk hts hb2;generalize hO:(W.take j).foldl (legStep A e l) (0,0)=out at hb hb2;obtain ⟨k,rfl⟩:∃z:Nat,k=z:=⟨k.toNat,by omega⟩;have hka:k<A.length:=by omega
  have hr:=(hn.2.2.2 _ (getD_mem2 (d:=((0,0,[],[]):DArc)) hka)).1;have hst:legStep A e l out (k:Int)=(out.1+(bndF (A.getD k (0,0,[],[])) (e+out.1) (l+out.2)).1,out.2+(bndF (A.getD k (0,0,[],[])) (e+out.1) (l+out.2)).2):=rfl;simp only[List.foldl_cons,List.foldl_nil,hst] at hb2;obtain ⟨o1,o2⟩:=out;dsimp only at hb hb2 hst;have w3:IntKind.i64.wrap (e+o1)=e+o1:=i64_in _ (by omega);have w4:IntKind.i64.wrap (l+o2)=l+o2:=i64_in _ (by omega);generalize hB:bndF (A.getD k (0,0,[],[])) (e+o1) (l+o2)=bb at hb2 hst;have hbl:=low_bd (show (toArc (A.getD k (0,0,[],[]))).right from of_decide_eq_true hr) ((e+o1) / 60).toNat (hoursN (e+o1) (l+o2));have w5:IntKind.i64.wrap (o1+bb.1)=o1+bb.1:=i64_in _ (by
   rw[←hB];unfold bndF;dsimp only at hbl⊢;omega)
  have w6:IntKind.i64.wrap (o2+bb.2)=o2+bb.2:=i64_in _ (by
   rw[←hB];unfold bndF;dsimp only at hbl⊢;omega)
  dsimp only[x169_0,x169_0d];simp only[↓hcsLr2,entREarly,entRWay,entBn20,hj',hji hj',hS,hO,hka,hr,w2,w3,w4,hB,w5,w6,go_sem];try simp only[hj',hji hj',hS,hO,hka,hr,w2,w3,w4,hB,w5,w6,td,reduceCtorEq]
  refine ⟨⟨⟨(by omega:(0:Int)≤e+o1),(by omega:e+o1≤(100000000:Int))⟩,(by omega:(0:Int)≤l+o2),(by omega:l+o2≤(100000000:Int))⟩,j+1,by omega,hj',rfl,?_⟩;rw[hts,List.foldl_append,hO];exact ⟨(congrArg Prod.fst hst).symm,(congrArg Prod.snd hst).symm⟩
 ·obtain rfl:j=W.length:=by omega
  dsimp only[x169_0,x169_0d];simp only[↓hcsLr2,entREarly,entRWay,entBn20,hj',go_sem];try simp only[hj',td,reduceCtorEq]
  rw[hlf];try rw[List.take_length]
  rw[show decide (W≠[])=true from decide_eq_true fun z=>h0 (by rw[z];rfl)]
end T
end Go.Proofs.YtpocfbfmjippnaaGreat
end
