/- Parts of the proof of the law; no condition. -/
import Derived.Test.YtcnfmabhghhdnaaGreatA34
import Derived.Test.YtcnfmabhghhdnaaGreatA38
import Derived.Test.YtcnfmabhghhdnaaGreatA47
set_option linter.all false
section
namespace Go.Proofs.YtcnfmabhghhdnaaGreat
open Go.RowKit Go.IntWalk
namespace T
def entRgR:Ent:=⟨29,.cons Z24 (.cons Z22 .nil),.bool,false,none,fun _=>True,fun x=>rightPs x.1 x.2.1⟩
def csRgR:List Ent:=[entRR20,entCkR,entAt23] theorem hcsRgR (f:FuncId):findEnt csRgR f=findEnt [entRR20,entCkR,entAt23] f:=rfl
theorem apart_no {ps:List DPlan} {i j a:Nat} (ha:a<(ps.getD j dPlan).2.1.length) (h:0≤atF (((ps.getD j dPlan).2.1.getD a dStop).1,true) (ps.getD i dPlan).2.1∨0≤atF (((ps.getD j dPlan).2.1.getD a dStop).1,false) (ps.getD i dPlan).2.1):apartB (ps.getD i dPlan) (ps.getD j dPlan)=false:=by
 rw[←Bool.not_eq_true];intro q;rcases h with h|h
 ·exact apart_ne q (at_mem.1 h) (getD_memS ha) rfl
 ·exact apart_ne q (at_mem.1 h) (getD_memS ha) rfl
theorem apart_yes {ps:List DPlan} {i j:Nat} (h:∀a,a<(ps.getD j dPlan).2.1.length→atF (((ps.getD j dPlan).2.1.getD a dStop).1,true) (ps.getD i dPlan).2.1<0∧atF (((ps.getD j dPlan).2.1.getD a dStop).1,false) (ps.getD i dPlan).2.1<0):apartB (ps.getD i dPlan) (ps.getD j dPlan)=true:=by
 refine apart_mk fun s hs t ht e=>?_;obtain ⟨a,ha,rfl⟩:=List.getElem_of_mem ht;have:=h a ha;rw[getD_get ha] at this;obtain ⟨s1,s2⟩:=s;have e:s1=((ps.getD j dPlan).2.1[a]).1:=e;rw[←e] at this;have hm:=at_mem.2 hs;cases s2<;>omega
set_option maxHeartbeats 2000000 in
theorem conRgR:Con Tryz.prog entRgR:=by
 refine con_is (C:=csRgR) x29 (by kernel_rfl) (by simp[csRgR,conRR20,conCkR,conAt23]) fun x hx hf=>?_;obtain ⟨⟨(N:Int),(A:List DArc),(C:List DCar),(Q:List DReq),(P:List DPair),(S1:Int),(S2:Int),(S3:Int)⟩,(ps:List DPlan),_⟩:=x;have hl:ps.length≤9223372036854775807:=hf.2.1.1;have hlS:∀j,j<ps.length→(ps.getD j dPlan).2.1.length≤9223372036854775807:=fun j hj=>(hf.2.1.2 _ (show ps.getD j dPlan∈ps by simp[List.getD,hj])).2.1.1;dsimp only[entRgR,x29,Z23,Z24,Zb,Ze,Zg];have hi:=rightPs_iff (w:=(N,A,C,Q,P,S1,S2,S3)) (ps:=ps);cases h1:rightP (N,A,C,Q,P,S1,S2,S3) with
 |false=>
  have hF:rightPs (N,A,C,Q,P,S1,S2,S3) ps=false:=by rw[←Bool.not_eq_true,hi];exact fun q=>absurd (q.1.symm.trans h1) (by decide)
  simp only[↓hcsRgR,entRR20,entCkR,entAt23,undef,h1,hF,go_sem];try simp only[h1,hF,td,reduceCtorEq]
 |true=>
 by_cases h2:(ps.length:Int)=(C.length:Int)
 case neg=>
  have h2':¬ps.length=C.length:=fun z=>h2 (by rw[z]);have hF:rightPs (N,A,C,Q,P,S1,S2,S3) ps=false:=by rw[←Bool.not_eq_true,hi];exact fun q=>h2' q.2.1
  simp only[↓hcsRgR,entRR20,entCkR,entAt23,undef,h1,h2,h2',hF,go_sem];try simp only[h1,h2,h2',hF,td,reduceCtorEq]
 have h2':ps.length=C.length:=Int.ofNat_inj.1 h2;have hY:=rightPs_yes (w:=(N,A,C,Q,P,S1,S2,S3)) (ps:=ps);have hNo:=fun j hj=>rightPs_no (w:=(N,A,C,Q,P,S1,S2,S3)) (ps:=ps) (j:=j) hj;dsimp only at hY;rw[h1,Bool.true_and,decide_eq_true h2] at hY;simp only[↓hcsRgR,entRR20,entCkR,entAt23,undef,h1,h2,h2',go_sem];try simp only[h1,h2,h2',td,reduceCtorEq]
 refine XW_for 1000 x29_0d [0] Nat (fun j=>[(5,.val Z1 (j:Int))]) (fun _=>[]) (fun j=>j≤ps.length∧GoodTo (N,A,C,Q,P,S1,S2,S3) ps j) (fun j=>ps.length-j) 0 ?_ ?_ ?_
 ·dsimp only[x29_0d];simp only[go_sem];try trivial
 ·exact ⟨Nat.zero_le _,fun j hj=>absurd hj (Nat.not_lt_zero _)⟩
 rintro j ⟨hj,hg⟩;dsimp only[x29_0,x29_0d,Z1,Z13,Z24,Za,Zb,Zc,Zf,Zg,Zh];by_cases hj':j<ps.length
 case neg=>
  obtain rfl:j=ps.length:=by omega
  have hF:=hY hg;simp only[↓hcsRgR,entRR20,entCkR,entAt23,undef,hj',hF,go_sem];try simp only[hj',hF,td,reduceCtorEq]
 have w2:IntKind.i64.wrap ((j:Int)+1)=((j+1:Nat):Int):=i64_in _ (by omega);have hN:=hNo j hj';have hGn:(ps.getD j dPlan).1=(j:Int)→checkP (N,A,C,Q,P,S1,S2,S3) (ps.getD j dPlan)=0→(∀i,i<j→apartB (ps.getD i dPlan) (ps.getD j dPlan)=true)→GoodTo (N,A,C,Q,P,S1,S2,S3) ps (j+1):=fun a b c k hk=>by
  by_cases q:k=j
  ·subst q;exact ⟨⟨a,b⟩,c⟩
  ·exact hg k (by omega)
 have hap:=fun i=>apart_yes (ps:=ps) (i:=i) (j:=j);have han:=fun i a ha=>apart_no (ps:=ps) (i:=i) (j:=j) (a:=a) ha;have hlj:=hlS j hj';clear hg hlS hY hNo;dsimp only[dPlan,dStop] at hN hGn hap han hlj;generalize hPj:ps.getD j (0,[],[],[])=pj at hN hGn hap han hlj;obtain ⟨c,ss,L,G⟩:=pj;dsimp only at hN hGn hap han hlj;by_cases c1:c=(j:Int)
 case neg=>
  have hF:=hN (.inl c1);simp only[↓hcsRgR,entRR20,entCkR,entAt23,undef,hj',hPj,c1,hF,go_sem];try simp only[hj',hPj,c1,hF,td,reduceCtorEq]
 subst c1;by_cases c2:checkP (N,A,C,Q,P,S1,S2,S3) ((j:Int),ss,L,G)=0
 case neg=>
  have hF:=hN (.inr (.inl c2));simp only[↓hcsRgR,entRR20,entCkR,entAt23,undef,hj',hPj,c2,hF,go_sem];try simp only[hj',hPj,c2,hF,td,reduceCtorEq]
 replace hGn:=hGn rfl c2;simp only[↓hcsRgR,entRR20,entCkR,entAt23,undef,hj',hPj,c2,go_sem];try simp only[hj',hPj,c2,td,reduceCtorEq]
 refine XW_for 2000 x29_1d [0] Nat (fun i=>[(6,.val Z1 (i:Int))]) (fun _=>[]) (fun i=>i≤j∧∀i',i'<i→apartB (ps.getD i' (0,[],[],[])) ((j:Int),ss,L,G)=true) (fun i=>j-i) 0 ?_ ?_ ?_
 ·dsimp only[x29_1d];simp only[go_sem];try trivial
 ·exact ⟨Nat.zero_le _,fun i hi=>absurd hi (Nat.not_lt_zero _)⟩
 rintro i ⟨hi,hap2⟩;dsimp only[x29_1,x29_1d,Za,Zb,Zg];by_cases hi':i<j
 case neg=>
  obtain rfl:i=j:=by omega
  have hii:¬(i:Int)<(i:Int):=by omega
  simp only[↓hcsRgR,entRR20,entCkR,entAt23,undef,hi',hii,w2,go_sem];try simp only[hi',hii,w2,td,reduceCtorEq]
  exact ⟨i+1,by omega,⟨by omega,hGn hap2⟩,rfl⟩
 have hii:(i:Int)<(j:Int):=by omega
 have hil:i<ps.length:=by omega
 have wi:IntKind.i64.wrap ((i:Int)+1)=((i+1:Nat):Int):=i64_in _ (by omega);simp only[↓hcsRgR,entRR20,entCkR,entAt23,undef,hi',hii,go_sem];try simp only[hi',hii,td,reduceCtorEq]
 refine XW_for 3000 x29_2d [0] Nat (fun a=>[(7,.val Z1 (a:Int))]) (fun _=>[]) (fun a=>a≤ss.length∧∀a',a'<a→atF ((ss.getD a' (0,false)).1,true) (ps.getD i (0,[],[],[])).2.1<0∧atF ((ss.getD a' (0,false)).1,false) (ps.getD i (0,[],[],[])).2.1<0) (fun a=>ss.length-a) 0 ?_ ?_ ?_
 ·dsimp only[x29_2d];simp only[go_sem];try trivial
 ·exact ⟨Nat.zero_le _,fun i hi=>absurd hi (Nat.not_lt_zero _)⟩
 rintro a ⟨ha,hno⟩;dsimp only[x29_2,x29_2d,Z1,Z12,Z13,Z8,Za,Zb,Zc,Zf,Zg,Zh];by_cases ha':a<ss.length
 ·have wa:IntKind.i64.wrap ((a:Int)+1)=((a+1:Nat):Int):=i64_in _ (by omega);have han:=han i a ha';by_cases d1:0≤atF ((ss.getD a (0,false)).1,true) (ps.getD i (0,[],[],[])).2.1
  ·have d1':atF ((ss.getD a (0,false)).1,true) (ps.getD i (0,[],[],[])).2.1≥0:=d1;have hF:=hN (.inr (.inr ⟨i,hi',han (.inl d1)⟩));simp only[↓hcsRgR,entRR20,entCkR,entAt23,undef,hj',hil,ha',hPj,d1,d1',hF,go_sem];try simp only[hj',hil,ha',hPj,d1,d1',hF,td,reduceCtorEq]
  have d1':¬atF ((ss.getD a (0,false)).1,true) (ps.getD i (0,[],[],[])).2.1≥0:=d1;by_cases d2:0≤atF ((ss.getD a (0,false)).1,false) (ps.getD i (0,[],[],[])).2.1
  ·have d2':atF ((ss.getD a (0,false)).1,false) (ps.getD i (0,[],[],[])).2.1≥0:=d2;have hF:=hN (.inr (.inr ⟨i,hi',han (.inr d2)⟩));simp only[↓hcsRgR,entRR20,entCkR,entAt23,undef,hj',hil,ha',hPj,d1,d1',d2,d2',hF,go_sem];try simp only[hj',hil,ha',hPj,d1,d1',d2,d2',hF,td,reduceCtorEq]
  have d2':¬atF ((ss.getD a (0,false)).1,false) (ps.getD i (0,[],[],[])).2.1≥0:=d2;simp only[↓hcsRgR,entRR20,entCkR,entAt23,undef,hj',hil,ha',wa,hPj,d1,d1',d2,d2',go_sem];try simp only[hj',hil,ha',wa,hPj,d1,d1',d2,d2',td,reduceCtorEq]
  refine ⟨a+1,by omega,⟨by omega,fun a' h=>?_⟩,rfl⟩;rcases Nat.lt_or_ge a' a with q|q
  ·exact hno a' q
  ·rw[show a'=a by omega];exact ⟨Int.not_le.1 d1,Int.not_le.1 d2⟩
 ·obtain rfl:a=ss.length:=by omega
  have hA:=hap i hno;simp only[↓hcsRgR,entRR20,entCkR,entAt23,undef,hj',hil,ha',wi,hPj,go_sem];try simp only[hj',hil,ha',wi,hPj,td,reduceCtorEq]
  refine ⟨i+1,by omega,⟨by omega,fun i' h=>?_⟩,rfl⟩;rcases Nat.lt_or_ge i' i with q|q
  ·exact hap2 i' q
  ·rw[show i'=i by omega];exact hA
end T
end Go.Proofs.YtcnfmabhghhdnaaGreat
end
