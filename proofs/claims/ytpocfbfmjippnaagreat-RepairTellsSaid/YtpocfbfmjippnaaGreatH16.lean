/- Parts of the proof of the law; no condition. -/
import Derived.Test.YtpocfbfmjippnaaGreatH15
import Derived.Test.YtpocfbfmjippnaaGreatH21
import Derived.Test.YtpocfbfmjippnaaGreatH22
import Derived.Test.YtpocfbfmjippnaaGreatH24
import Derived.Test.YtpocfbfmjippnaaGreatH25
set_option linter.all false
section
namespace Go.Proofs.YtpocfbfmjippnaaGreat
open Go.RowKit Go.IntWalk
namespace T
def cutF (c:DChain) (g:List Int) (low high:List Int) (k:Nat):Bool:=keepsF c (rnF c g (low.take k++high.drop k)).1
def entKp1:Ent:=⟨95,.cons Z1 (.cons (.ptr Z18) (.cons Z32 (.cons Z32 (.cons Z32 .nil)))),.bool,false,none,
 fun x=>(0≤(x.1:Int)∧(x.1:Int)≤List.length (α:=Int) x.2.2.2.1)∧List.length (α:=Int) x.2.2.2.2.1=List.length (α:=Int) x.2.2.2.1∧List.length (α:=Int) x.2.2.2.1≤1000,fun x=>cutF x.2.1 x.2.2.1 x.2.2.2.1 x.2.2.2.2.1 (x.1:Int).toNat⟩
def csKp1:List Ent:=[entCat,entRun,entKeep] theorem hcsKp1 (f:FuncId):findEnt csKp1 f=findEnt [entCat,entRun,entKeep] f:=rfl
theorem conKp1:Con Tryz.prog entKp1:=by
 refine con_is (C:=csKp1) x95 (by kernel_rfl) (by simp[csKp1,conCat,conRun,conKeep]) fun x hx hf=>?_;obtain ⟨(k:Int),⟨(W:List DWin),(L:List DLeg),(R:List DRide)⟩,(g:List Int),(lo:List Int),(hi:List Int),_⟩:=x;obtain ⟨⟨h1,h2⟩,h3,h4⟩:=hx;replace h1:0≤k:=h1;replace h2:k≤(lo.length:Int):=h2;replace h3:hi.length=lo.length:=h3;replace h4:lo.length≤1000:=h4;obtain ⟨k,rfl⟩:∃z:Nat,k=z:=⟨k.toNat,by omega⟩;have h5:(k:Int)≤(hi.length:Int):=by omega
 dsimp only[entKp1,x95];simp only[↓hcsKp1,entCat,entRun,entKeep,undef,h1,h2,h3,h5,go_sem];try simp only[h1,h2,h3,h5,td,reduceCtorEq]
 have e1:hi.take lo.length=hi:=List.take_of_length_le (by omega);rw[e1];refine ⟨⟨Int.le_refl _,Int.le_refl _,fun l hl=>?_⟩,?_⟩
 ·rcases hl with rfl|rfl
  ·rw[List.length_take];omega
  ·rw[List.length_drop];omega
 ·unfold cutF;rw[show [lo.take k,hi.drop k].flatten=lo.take k++hi.drop k by simp]
def keeps20 (c:DChain) (g:List Int):Bool:=
 (cutF c g (lowsF c.2.1) (highsF c.2.1) 0&&cutF c g (lowsF c.2.1) (highsF c.2.1) c.2.1.length)&&c.2.2.all fun r=>cutF c g (lowsF c.2.1) (highsF c.2.1) r.1.toNat
def entKps:Ent:=⟨54,.cons Z18 (.cons Z5 .nil),.bool,false,none,fun x=>rightC x.1=true,fun x=>keeps20 x.1 x.2.1⟩
def csKps:List Ent:=[entLw20,entHg20,entKp1] theorem hcsKps (f:FuncId):findEnt csKps f=findEnt [entLw20,entHg20,entKp1] f:=rfl
theorem conKps:Con Tryz.prog entKps:=by
 refine con_is (C:=csKps) u54 (by kernel_rfl) (by simp[csKps,conLw20,conHg20,conKp1]) fun x hx hf=>?_;obtain ⟨⟨(W:List DWin),(L:List DLeg),(R:List DRide)⟩,(g:List Int),_⟩:=x;replace hx:rightC (W,L,R)=true:=hx;have hlen:=(rightC_iff.1 hx).1;dsimp only at hlen;have hLl:L.length≤1000:=by omega
 have hlo:(lowsF L).length=L.length:=lows_len L;have hhi:(highsF L).length=L.length:=highs_len L;have hL0:(0:Int)≤(L.length:Int):=by omega
 cases c1:cutF (W,L,R) g (lowsF L) (highsF L) 0 with
 |false=>
  have hz:keeps20 (W,L,R) g=false:=by unfold keeps20;dsimp only;rw[c1];rfl
  dsimp only[entKps,u54,u92,u149,u99,Z17,Z5,Z9,Za,Zb,Zc,Ze,Zg];simp only[↓hcsKps,entLw20,entHg20,entKp1,undef,hLl,hlo,hhi,hL0,c1,hz,Int.toNat_zero,go_sem];try simp only[hLl,hlo,hhi,hL0,c1,hz,Int.toNat_zero,td,reduceCtorEq]
  exact Int.le_refl _
 |true=>
  cases c2:cutF (W,L,R) g (lowsF L) (highsF L) L.length with
  |false=>
   have hz:keeps20 (W,L,R) g=false:=by unfold keeps20;dsimp only;rw[c1,c2];rfl
   dsimp only[entKps,u54,u92,u149,u99,Z17,Z5,Z9,Za,Zb,Zc,Ze,Zg];simp only[↓hcsKps,entLw20,entHg20,entKp1,undef,hLl,hlo,hhi,hL0,c1,c2,hz,Int.toNat_zero,go_sem];try simp only[hLl,hlo,hhi,hL0,c1,c2,hz,Int.toNat_zero,td,reduceCtorEq]
   exact ⟨Int.le_refl _,Int.le_refl _⟩
  |true=>
   have hz:keeps20 (W,L,R) g=R.all fun r=>cutF (W,L,R) g (lowsF L) (highsF L) r.1.toNat:=by unfold keeps20;dsimp only;rw[c1,c2];rfl
   dsimp only[entKps,u54,u92,u149,u99,Z17,Z5,Z9,Za,Zb,Zc,Ze,Zg];simp only[↓hcsKps,entLw20,entHg20,entKp1,undef,hLl,hlo,hhi,hL0,c1,c2,Int.toNat_zero,go_sem];try simp only[hLl,hlo,hhi,hL0,c1,c2,Int.toNat_zero,td,reduceCtorEq]
   refine ⟨⟨Int.le_refl _,Int.le_refl _⟩,?_⟩;refine XW_for 1000 u149_0d [0,1,9,10,14] Nat (fun i=>[(8,.val Z1 (i:Int))]) (fun _=>[]) (fun i=>i≤R.length∧∀k,k<i→cutF (W,L,R) g (lowsF L) (highsF L) (R.getD k (0,0,0)).1.toNat=true) (fun i=>R.length-i) 0 ?_ ?_ ?_
   ·dsimp only[u149_0d];simp only[go_sem];try trivial
   ·exact ⟨Nat.zero_le _,fun k hk=>absurd hk (Nat.not_lt_zero _)⟩
   rintro i ⟨hi,hm⟩;by_cases hil:i<R.length
   ·have w2:IntKind.i64.wrap ((i:Int)+1)=((i+1:Nat):Int):=i64_in _ (by omega);have hrd:=right_ride hx (k:=i) hil;have hall:cutF (W,L,R) g (lowsF L) (highsF L) (R.getD i (0,0,0)).1.toNat=false→keeps20 (W,L,R) g=false:=fun h=>by
     rw[hz,List.all_eq_false];exact ⟨_,getD_mem2 (d:=(0,0,0)) hil,by rw[h];simp⟩
    dsimp only at hrd;generalize hrr:R.getD i (0,0,0)=rr at hrd hall;obtain ⟨r1,r2,r3⟩:=rr;dsimp only at hrd hall;have hr1:0≤r1:=hrd.1;have hr2:r1≤(L.length:Int):=by omega
    cases c3:cutF (W,L,R) g (lowsF L) (highsF L) r1.toNat with
    |false=>
     replace hall:=hall c3;dsimp only[u149_0,u149_0d,u54,u92,u149,u99,Z17,Z3,Z5,Z9,Za,Zb,Zc,Ze,Zg];simp only[↓hcsKps,entLw20,entHg20,entKp1,undef,hil,w2,hrr,hLl,hlo,hhi,hr1,hr2,c3,hall,go_sem];try simp only[hil,w2,hrr,hLl,hlo,hhi,hr1,hr2,c3,hall,td,reduceCtorEq]
    |true=>
     dsimp only[u149_0,u149_0d,u54,u92,u149,u99,Z17,Z3,Z5,Z9,Za,Zb,Zc,Ze,Zg];simp only[↓hcsKps,entLw20,entHg20,entKp1,undef,hil,w2,hrr,hLl,hlo,hhi,hr1,hr2,c3,go_sem];try simp only[hil,w2,hrr,hLl,hlo,hhi,hr1,hr2,c3,td,reduceCtorEq]
     refine ⟨i+1,by omega,⟨by omega,fun k hk=>?_⟩,rfl⟩;rcases Nat.lt_or_ge k i with q|q
     ·exact hm k q
     ·rw[show k=i by omega,hrr];exact c3
   ·obtain rfl:i=R.length:=by omega
    have hz2:keeps20 (W,L,R) g=true:=by
     rw[hz,List.all_eq_true];intro r hrm;obtain ⟨k,hk,rfl⟩:=List.getElem_of_mem hrm;have h1:=hm k hk;have:R.getD k (0,0,0)=R[k]:=by simp[List.getD,hk]
     rw[this] at h1;exact h1
    dsimp only[u149_0,u149_0d,u54,u92,u149,u99,Z17,Z3,Z5,Z9,Za,Zb,Zc,Ze,Zg];simp only[↓hcsKps,entLw20,entHg20,entKp1,undef,hil,hz2,go_sem];try simp only[hil,hz2,td,reduceCtorEq]
    decide
def begF (w:DWorld) (c:Int) (ss:List DStop):DChain×Int:=
 if asksF w c ss=false then (noChain,1) else if (fitsF (carLoad (carAt w c)) ss w.2.2.2.1).2≠0 then (noChain,27) else if togF w.2.2.2.2.1 ss w.2.2.2.1=false then (noChain,30) else chainF w c ss
def entBeg:Ent:=⟨51,.cons Z21 (.cons Z1 (.cons Z15 .nil)),.cons Z18 (.cons Z1 .nil),true,none,fun x=>List.length (α:=DStop) x.2.2.1≤24,fun x=>((begF x.1 x.2.1 x.2.2.1).1,(begF x.1 x.2.1 x.2.2.1).2,())⟩
def csBeg:List Ent:=[entAsk,entFits,entTog,entChn] theorem hcsBeg (f:FuncId):findEnt csBeg f=findEnt [entAsk,entFits,entTog,entChn] f:=rfl
theorem conBeg:Con Tryz.prog entBeg:=by
 refine con_is (C:=csBeg) x51 (by kernel_rfl) (by simp[csBeg,conAsk,conFits,conTog,conChn]) fun x hx hf=>?_;obtain ⟨⟨(N:Int),(A:List DArc),(C:List DCar),(Q:List DReq),(P:List DPair),(S1:Int),(S2:Int),(S3:Int)⟩,(c:Int),(ss:List DStop),_⟩:=x;replace hx:ss.length≤24:=hx;cases ha:asksF (N,A,C,Q,P,S1,S2,S3) c ss with
 |false=>
  have hz:begF (N,A,C,Q,P,S1,S2,S3) c ss=(([],[],[]),1):=by unfold begF;rw[if_pos ha];rfl
  dsimp only[entBeg,x51];simp only[↓hcsBeg,entAsk,entFits,entTog,entChn,undef,ha,hz,go_sem];try simp only[ha,hz,td,reduceCtorEq]
 |true=>
  obtain ⟨hw,hc,hss⟩:=asks_iff.1 ha;dsimp only at hc hss;obtain ⟨c,rfl⟩:∃z:Nat,c=z:=⟨c.toNat,by omega⟩;have hcl:c<C.length:=by omega
  have hca:carAt (N,A,C,Q,P,S1,S2,S3) (c:Int)=C.getD c (0,0,0,0,0,0,0,0,0):=rfl;have hz:begF (N,A,C,Q,P,S1,S2,S3) c ss=if (fitsF (carLoad (C.getD c (0,0,0,0,0,0,0,0,0))) ss Q).2≠0 then (noChain,27) else if togF P ss Q=false then (noChain,30) else chainF (N,A,C,Q,P,S1,S2,S3) c ss:=by
   unfold begF;rw[if_neg (by rw[ha];simp),hca]
  dsimp only[entBeg,x51];simp only[↓hcsBeg,entAsk,entFits,entTog,entChn,undef,ha,hcl,hx,go_sem];try simp only[ha,hcl,hx,td,reduceCtorEq]
  refine ⟨fun h=>?_,fun h=>⟨fun h2=>?_,fun h2=>?_⟩⟩
  ·rw[hz,if_pos h];rfl
  ·rw[hz,if_neg (fun q=>q h),if_pos h2];rfl
  ·rw[hz,if_neg (fun q=>q h),if_neg (by rw[h2];simp)]
def entClS:Ent:=⟨57,.cons Z15 .nil,Z15,false,none,fun x=>List.length (α:=DStop) x.1≤1000000,fun x=>x.1⟩
def csClS:List Ent:=[] theorem hcsClS (f:FuncId):findEnt csClS f=findEnt [] f:=rfl
theorem conClS:Con Tryz.prog entClS:=by
 refine con_is (C:=csClS) x57 (by kernel_rfl) (by simp[csClS]) fun x hx hf=>?_;obtain ⟨(S:List DStop),_⟩:=x;have hS:S.length≤1000000:=hx;dsimp only[entClS,x57];simp only[↓hcsClS,go_sem];try simp only[td,reduceCtorEq]
 exact ⟨fun q=>q.symm,by omega⟩
theorem ext_getD {α:Type} (d:α) {a b:List α} (hl:a.length=b.length) (h:∀i,i<a.length→a.getD i d=b.getD i d):a=b:=by
 refine List.ext_getElem hl fun i h1 h2=>?_;have:=h i h1;simpa [List.getD,h1,h2] using this
def entEqLg:Ent:=⟨43,.cons Z9 (.cons Z9 .nil),.bool,false,none,fun _=>True,fun x=>decide ((x.1:List DLeg)=x.2.1)⟩
def csEqLg:List Ent:=[] theorem hcsEqLg (f:FuncId):findEnt csEqLg f=findEnt [] f:=rfl
theorem conEqLg:Con Tryz.prog entEqLg:=by
 refine con_is (C:=csEqLg) x43 (by kernel_rfl) (by simp[csEqLg]) fun x hx hf=>?_;obtain ⟨(a:List DLeg),(b:List DLeg),_⟩:=x;have hl:a.length≤9223372036854775807:=hf.1.1;by_cases hab:a.length=b.length
 ·have habi:(a.length:Int)=(b.length:Int):=by omega
  dsimp only[entEqLg,x43];simp only[↓hcsEqLg,habi,go_sem];try simp only[habi,td,reduceCtorEq]
  refine XW_for 1000 x43_0d [] Nat (fun j=>[(13,.val Z1 (j:Int))]) (fun _=>[]) (fun j=>j≤a.length∧∀i,i<j→a.getD i (0,0)=b.getD i (0,0)) (fun j=>a.length-j) 0 ?_ ?_ ?_
  ·dsimp only[x43_0d];simp only[go_sem];try trivial
  ·exact ⟨Nat.zero_le _,fun i hi=>by omega⟩
  rintro j ⟨hj,hn⟩;by_cases hja:j<a.length
  ·have hjb:j<b.length:=by omega
   have w2:IntKind.i64.wrap ((j:Int)+1)=((j+1:Nat):Int):=i64_in _ (by omega);have hne:a.getD j (0,0)≠b.getD j (0,0)→decide (a=b)=false:=fun h=>decide_eq_false fun z=>h (by rw[z]);have hnx:a.getD j (0,0)=b.getD j (0,0)→∀i,i<j+1→a.getD i (0,0)=b.getD i (0,0):=fun h i hi=>by
    rcases Nat.lt_or_ge i j with q|q
    ·exact hn i q
    ·rw[show i=j by omega];exact h
   generalize hA:a.getD j (0,0)=u at hne hnx;generalize hB:b.getD j (0,0)=v at hne hnx;obtain ⟨u1,u2⟩:=u;obtain ⟨v1,v2⟩:=v;have huv:((u1,u2)=(v1,v2))↔u1=v1∧u2=v2:=Prod.mk.injEq _ _ _ _▸Iff.rfl;dsimp only[x43_0,x43_0d];simp only[↓hcsEqLg,hja,hjb,w2,hA,hB,habi,go_sem];try simp only[hja,hjb,w2,hA,hB,habi,td,reduceCtorEq]
   exact ⟨fun h=>(hne (fun q=>h (huv.1 q).1 (huv.1 q).2)).symm,fun h=>⟨j+1,by omega,⟨by omega,hnx (huv.2 h)⟩,rfl⟩⟩
  ·have hjb:¬j<b.length:=by omega
   have heq:decide (a=b)=true:=decide_eq_true (ext_getD (0,0) hab fun i hi=>hn i (by omega));dsimp only[x43_0,x43_0d];simp only[↓hcsEqLg,hja,hjb,habi,heq,go_sem];try simp only[hja,hjb,habi,heq,td,reduceCtorEq]
 ·have habi:¬(a.length:Int)=(b.length:Int):=by omega
  have hne:decide (a=b)=false:=decide_eq_false fun z=>hab (by rw[z]);dsimp only[entEqLg,x43];simp only[↓hcsEqLg,hab,habi,hne,go_sem];try simp only[hab,habi,hne,td,reduceCtorEq]
def entSmLg:Ent:=⟨59,.cons Z9 (.cons Z9 .nil),.bool,false,none,fun _=>True,fun x=>decide ((x.1:List DLeg)=x.2.1)⟩
def csSmLg:List Ent:=[] theorem hcsSmLg (f:FuncId):findEnt csSmLg f=findEnt [] f:=rfl
theorem conSmLg:Con Tryz.prog entSmLg:=by
 refine con_is (C:=csSmLg) x59 (by kernel_rfl) (by simp[csSmLg]) fun x hx hf=>?_;obtain ⟨(a:List DLeg),(b:List DLeg),_⟩:=x;have hl:a.length≤9223372036854775807:=hf.1.1;by_cases hab:a.length=b.length
 ·have habi:(a.length:Int)=(b.length:Int):=by omega
  dsimp only[entSmLg,x59];simp only[↓hcsSmLg,habi,go_sem];try simp only[habi,td,reduceCtorEq]
  refine XW_for 1000 x59_0d [] Nat (fun j=>[(5,.val Z1 (j:Int))]) (fun _=>[]) (fun j=>j≤a.length∧∀i,i<j→a.getD i (0,0)=b.getD i (0,0)) (fun j=>a.length-j) 0 ?_ ?_ ?_
  ·dsimp only[x59_0d];simp only[go_sem];try trivial
  ·exact ⟨Nat.zero_le _,fun i hi=>by omega⟩
  rintro j ⟨hj,hn⟩;by_cases hja:j<a.length
  ·have hjb:j<b.length:=by omega
   have w2:IntKind.i64.wrap ((j:Int)+1)=((j+1:Nat):Int):=i64_in _ (by omega);have hne:a.getD j (0,0)≠b.getD j (0,0)→decide (a=b)=false:=fun h=>decide_eq_false fun z=>h (by rw[z]);have hnx:a.getD j (0,0)=b.getD j (0,0)→∀i,i<j+1→a.getD i (0,0)=b.getD i (0,0):=fun h i hi=>by
    rcases Nat.lt_or_ge i j with q|q
    ·exact hn i q
    ·rw[show i=j by omega];exact h
   generalize hA:a.getD j (0,0)=u at hne hnx;generalize hB:b.getD j (0,0)=v at hne hnx;obtain ⟨u1,u2⟩:=u;obtain ⟨v1,v2⟩:=v;have huv:((u1,u2)=(v1,v2))↔u1=v1∧u2=v2:=Prod.mk.injEq _ _ _ _▸Iff.rfl;dsimp only[x59_0,x59_0d];simp only[↓hcsSmLg,hja,hjb,w2,hA,hB,habi,go_sem];try simp only[hja,hjb,w2,hA,hB,habi,td,reduceCtorEq]
   exact ⟨fun h=>(hne (fun q=>h (huv.1 q).1 (huv.1 q).2)).symm,fun h=>⟨j+1,by omega,⟨by omega,hnx (huv.2 h)⟩,rfl⟩⟩
  ·have hjb:¬j<b.length:=by omega
   have heq:decide (a=b)=true:=decide_eq_true (ext_getD (0,0) hab fun i hi=>hn i (by omega));dsimp only[x59_0,x59_0d];simp only[↓hcsSmLg,hja,hjb,habi,heq,go_sem];try simp only[hja,hjb,habi,heq,td,reduceCtorEq]
 ·have habi:¬(a.length:Int)=(b.length:Int):=by omega
  have hne:decide (a=b)=false:=decide_eq_false fun z=>hab (by rw[z]);dsimp only[entSmLg,x59];simp only[↓hcsSmLg,hab,habi,hne,go_sem];try simp only[hab,habi,hne,td,reduceCtorEq]
def entSmSt:Ent:=⟨58,.cons Z15 (.cons Z15 .nil),.bool,false,none,fun _=>True,fun x=>decide ((x.1:List DStop)=x.2.1)⟩
def csSmSt:List Ent:=[] theorem hcsSmSt (f:FuncId):findEnt csSmSt f=findEnt [] f:=rfl
theorem conSmSt:Con Tryz.prog entSmSt:=by
 refine con_is (C:=csSmSt) x58 (by kernel_rfl) (by simp[csSmSt]) fun x hx hf=>?_;obtain ⟨(a:List DStop),(b:List DStop),_⟩:=x;have hl:a.length≤9223372036854775807:=hf.1.1;by_cases hab:a.length=b.length
 ·have habi:(a.length:Int)=(b.length:Int):=by omega
  dsimp only[entSmSt,x58];simp only[↓hcsSmSt,habi,go_sem];try simp only[habi,td,reduceCtorEq]
  refine XW_for 1000 x58_0d [] Nat (fun j=>[(5,.val Z1 (j:Int))]) (fun _=>[]) (fun j=>j≤a.length∧∀i,i<j→a.getD i (0,false)=b.getD i (0,false)) (fun j=>a.length-j) 0 ?_ ?_ ?_
  ·dsimp only[x58_0d];simp only[go_sem];try trivial
  ·exact ⟨Nat.zero_le _,fun i hi=>by omega⟩
  rintro j ⟨hj,hn⟩;by_cases hja:j<a.length
  ·have hjb:j<b.length:=by omega
   have w2:IntKind.i64.wrap ((j:Int)+1)=((j+1:Nat):Int):=i64_in _ (by omega);have hne:a.getD j (0,false)≠b.getD j (0,false)→decide (a=b)=false:=fun h=>decide_eq_false fun z=>h (by rw[z]);have hnx:a.getD j (0,false)=b.getD j (0,false)→∀i,i<j+1→a.getD i (0,false)=b.getD i (0,false):=fun h i hi=>by
    rcases Nat.lt_or_ge i j with q|q
    ·exact hn i q
    ·rw[show i=j by omega];exact h
   generalize hA:a.getD j (0,false)=u at hne hnx;generalize hB:b.getD j (0,false)=v at hne hnx;obtain ⟨u1,u2⟩:=u;obtain ⟨v1,v2⟩:=v;have huv:((u1,u2)=(v1,v2))↔u1=v1∧u2=v2:=Prod.mk.injEq _ _ _ _▸Iff.rfl;dsimp only[x58_0,x58_0d];simp only[↓hcsSmSt,hja,hjb,w2,hA,hB,habi,go_sem];try simp only[hja,hjb,w2,hA,hB,habi,td,reduceCtorEq]
   exact ⟨fun h=>(hne (fun q=>h (huv.1 q).1 (huv.1 q).2)).symm,fun h=>⟨j+1,by omega,⟨by omega,hnx (huv.2 h)⟩,rfl⟩⟩
  ·have hjb:¬j<b.length:=by omega
   have heq:decide (a=b)=true:=decide_eq_true (ext_getD (0,false) hab fun i hi=>hn i (by omega));dsimp only[x58_0,x58_0d];simp only[↓hcsSmSt,hja,hjb,habi,heq,go_sem];try simp only[hja,hjb,habi,heq,td,reduceCtorEq]
 ·have habi:¬(a.length:Int)=(b.length:Int):=by omega
  have hne:decide (a=b)=false:=decide_eq_false fun z=>hab (by rw[z]);dsimp only[entSmSt,x58];simp only[↓hcsSmSt,hab,habi,hne,go_sem];try simp only[hab,habi,hne,td,reduceCtorEq]
end T
end Go.Proofs.YtpocfbfmjippnaaGreat
end
