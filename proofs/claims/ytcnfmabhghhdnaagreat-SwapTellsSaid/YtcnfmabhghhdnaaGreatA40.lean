/- Parts of the proof of the law; no condition. -/
import Derived.Test.YtcnfmabhghhdnaaGreatA16
set_option linter.all false
section
namespace Go.Proofs.YtcnfmabhghhdnaaGreat
open Go.RowKit Go.IntWalk
namespace T
def i3 (n a b:Int):Bool:=decide (a≤n∧n≤b)
def entIn20:Ent:=⟨103,.cons Z1 (.cons Z1 (.cons Z1 .nil)),.bool,false,none,fun _=>True,fun x=>i3 x.1 x.2.1 x.2.2.1⟩
def csIn20:List Ent:=[] theorem hcsIn20 (f:FuncId):findEnt csIn20 f=findEnt [] f:=rfl
theorem conIn20:Con Tryz.prog entIn20:=by
 refine con_is (C:=csIn20) x103 (by kernel_rfl) (by simp[csIn20]) fun x hx hf=>?_;obtain ⟨(n:Int),(a:Int),(b:Int),_⟩:=x;dsimp only[entIn20,x103,Za,Zb,Zg];simp only[↓hcsIn20,go_sem];try simp only[td,reduceCtorEq]
 unfold i3;rw[Bool.eq_iff_iff];simp
def entTi20:Ent:=⟨104,.cons Z1 .nil,.bool,false,none,fun _=>True,fun x=>i3 x.1 0 1048576⟩
def csTi20:List Ent:=[entIn20] theorem hcsTi20 (f:FuncId):findEnt csTi20 f=findEnt [entIn20] f:=rfl
theorem conTi20:Con Tryz.prog entTi20:=by
 refine con_is (C:=csTi20) x104 (by kernel_rfl) (by simp[csTi20,conIn20]) fun x hx hf=>?_;obtain ⟨(n:Int),_⟩:=x;dsimp only[entTi20,x104,Zb,Zg];simp only[↓hcsTi20,entIn20,go_sem];try simp only[td,reduceCtorEq]
def entPs20:Ent:=⟨105,.cons Z1 (.cons Z1 (.cons Z1 .nil)),.bool,false,none,fun _=>True,fun x=>i3 x.1 0 60&&i3 x.2.1 0 60&&i3 x.2.2.1 0 60⟩
def csPs20:List Ent:=[entIn20] theorem hcsPs20 (f:FuncId):findEnt csPs20 f=findEnt [entIn20] f:=rfl
theorem conPs20:Con Tryz.prog entPs20:=by
 refine con_is (C:=csPs20) x105 (by kernel_rfl) (by simp[csPs20,conIn20]) fun x hx hf=>?_;obtain ⟨(a:Int),(b:Int),(c:Int),_⟩:=x;dsimp only[entPs20,x105,Za,Zb,Zg];simp only[↓hcsPs20,entIn20,go_sem];try simp only[td,reduceCtorEq]
theorem carB_iff {m:Int} {c:DCar}:carB m c=true↔(0≤c.2.1∧c.2.1≤m)∧((0≤c.2.2.1∧c.2.2.1≤1048576)∧0≤c.2.2.2.1∧c.2.2.2.1≤1048576)∧c.2.2.1≤c.2.2.2.1∧(0≤c.2.2.2.2.1∧c.2.2.2.2.1≤60)∧(0≤c.2.2.2.2.2.1∧c.2.2.2.2.2.1≤60)∧0≤c.2.2.2.2.2.2.1∧c.2.2.2.2.2.2.1≤60:=by
 unfold carB allIn;simp
theorem reqB_iff {m:Int} {q:DReq}:reqB m q=true↔(((0≤q.2.2.2.1∧q.2.2.2.1≤1048576)∧(0≤q.2.2.2.2.1∧q.2.2.2.2.1≤1048576)∧(0≤q.2.2.2.2.2.1∧q.2.2.2.2.2.1≤1048576)∧0≤q.2.2.2.2.2.2.1∧q.2.2.2.2.2.2.1≤1048576)∧q.2.2.2.1≤q.2.2.2.2.1)∧(0≤q.1∧q.1≤3999)∧((0≤q.2.1∧q.2.1≤m)∧0≤q.2.2.1∧q.2.2.1≤m)∧(0≤q.2.2.2.2.2.2.2.1∧q.2.2.2.2.2.2.2.1≤60)∧(0≤q.2.2.2.2.2.2.2.2.1∧q.2.2.2.2.2.2.2.2.1≤60)∧0≤q.2.2.2.2.2.2.2.2.2∧q.2.2.2.2.2.2.2.2.2≤60:=by
 unfold reqB allIn;simp
theorem prB_iff {p:DPair}:prB p=true↔(0≤p.1∧p.1≤3999)∧0≤p.2.1∧p.2.1≤3999:=by
 unfold prB allIn;simp
theorem i3_iff {n a b:Int}:i3 n a b=true↔a≤n∧n≤b:=by unfold i3;simp
theorem i3_not {n a b:Int}:i3 n a b=false↔ ¬(a≤n∧n≤b):=by unfold i3;simp
def entRR20:Ent:=⟨55,.cons Z24 .nil,.bool,false,none,fun _=>True,fun x=>rightP x.1⟩
def csR20:List Ent:=[entIn20,entTi20,entPs20,entRRoad,entRi19] theorem hcsR20 (f:FuncId):findEnt csR20 f=findEnt [entIn20,entTi20,entPs20,entRRoad,entRi19] f:=rfl
set_option maxHeartbeats 4000000 in
theorem conRR20:Con Tryz.prog entRR20:=by
 refine con_is (C:=csR20) x55 (by kernel_rfl) (by simp[csR20,conIn20,conTi20,conPs20,conRRoad,conRi19]) fun x hx hf=>?_;obtain ⟨⟨(N:Int),(A:List DArc),(C:List DCar),(Q:List DReq),(P:List DPair),(S1:Int),(S2:Int),(S3:Int)⟩,_⟩:=x;dsimp only[entRR20,x55,Z1,Z18,Z20,Z23,Z5,Z7,Za,Zb,Zc,Zd,Ze,Zg];simp only[↓hcsR20,entIn20,entTi20,entPs20,entRRoad,entRi19,go_sem];try simp only[td,reduceCtorEq]
 have hno:(rightP (N,A,C,Q,P,S1,S2,S3)=true→False)→false=rightP (N,A,C,Q,P,S1,S2,S3):=fun h=>by
  symm;rw[←Bool.not_eq_true];exact h
 refine ⟨fun h=>hno fun q=>?_,?_⟩
 ·obtain ⟨q1,q2,_⟩:=rightP_iff.1 q;dsimp only at q1 q2;rcases h with ((h|h)|h)|h
  ·rw[h] at q1;cases q1
  ·omega
  ·omega
  ·omega
 rintro ⟨⟨⟨h1,h2⟩,h3⟩,h4⟩;have hn:=rightR_n h1;have w:IntKind.i64.wrap (N-1)=N-1:=i64_in _ (by omega);refine XW_for 1000 x55_0d [0] Nat (fun j=>[(3,.val Z1 (j:Int))]) (fun _=>[]) (fun j=>j≤C.length∧∀k,k<j→carB (N-1) (C.getD k (0,0,0,0,0,0,0,0,0))=true) (fun j=>C.length-j) 0 ?_ ?_ ?_
 ·dsimp only[x55_0d];simp only[go_sem];try trivial
 ·exact ⟨Nat.zero_le _,fun k hk=>absurd hk (Nat.not_lt_zero _)⟩
 rintro j ⟨hj,hnn⟩;by_cases hj':j<C.length
 ·have w2:IntKind.i64.wrap ((j:Int)+1)=((j+1:Nat):Int):=i64_in _ (by omega);have hji:(j:Int)<(C.length:Int):=by omega
  have hmem:=getD_mem2 (d:=((0,0,0,0,0,0,0,0,0):DCar)) hj';generalize hS:C.getD j (0,0,0,0,0,0,0,0,0)=x at hmem;obtain ⟨o,n,r,e,s,c,b,g,f⟩:=x;dsimp only[x55_0,x55_0d,Z1,Z19,Z23,Za,Zb,Zc,Zd,Ze,Zg];simp only[↓hcsR20,entIn20,entTi20,entPs20,entRRoad,entRi19,hj',hji,hS,w,w2,go_sem];try simp only[hj',hji,hS,w,w2,i3_iff,i3_not,td,reduceCtorEq]
  refine ⟨fun h=>hno fun q=>?_,fun h=>⟨j+1,by omega,⟨hj',fun k hk=>?_⟩,rfl⟩⟩
  ·have q2:=carB_iff.1 ((rightP_iff.1 q).2.2.1 _ hmem);dsimp only at q2;omega
  ·by_cases c:k=j
   ·subst c;rw[hS,carB_iff];dsimp only;omega
   ·exact hnn k (by omega)
 have hC2:∀x∈C,carB (N-1) x=true:=fun x hx=>by
  obtain ⟨k,hk,rfl⟩:=List.getElem_of_mem hx;have:=hnn k (by omega);rwa [show C.getD k (0,0,0,0,0,0,0,0,0)=C[k] by simp[List.getD,hk]] at this
 have hji:¬(j:Int)<(C.length:Int):=by omega
 dsimp only[x55_0,x55_0d,Z1,Z19,Z23,Za,Zb,Zc,Zd,Ze,Zg];simp only[↓hcsR20,entIn20,entTi20,entPs20,entRRoad,entRi19,hj',hji,go_sem];try simp only[hj',hji,td,reduceCtorEq]
 refine XW_for 2000 x55_1d [0] Nat (fun j=>[(5,.val Z1 (j:Int))]) (fun _=>[]) (fun j=>j≤Q.length∧∀k,k<j→reqB (N-1) (Q.getD k dReq)=true) (fun j=>Q.length-j) 0 ?_ ?_ ?_
 ·dsimp only[x55_1d];simp only[go_sem];try trivial
 ·exact ⟨Nat.zero_le _,fun k hk=>absurd hk (Nat.not_lt_zero _)⟩
 rintro j ⟨hj,hnn⟩;by_cases hj':j<Q.length
 ·have w2:IntKind.i64.wrap ((j:Int)+1)=((j+1:Nat):Int):=i64_in _ (by omega);have hji:(j:Int)<(Q.length:Int):=by omega
  have hmem:=getD_mem2 (d:=dReq) hj';generalize hS:Q.getD j dReq=x at hmem;have hS':Q.getD j (0,0,0,0,0,0,0,0,0,0)=x:=hS;obtain ⟨m,f,t,e,l,d,r,s,c,b⟩:=x;dsimp only[x55_1,x55_1d,Z1,Z6,Z7,Za,Zb,Zc,Zd,Ze,Zg];simp only[↓hcsR20,entIn20,entTi20,entPs20,entRRoad,entRi19,hj',hji,hS',w,w2,go_sem];try simp only[hj',hji,hS',w,w2,i3_iff,i3_not,td,reduceCtorEq]
  refine ⟨fun h=>hno fun q=>?_,fun h=>⟨j+1,by omega,⟨hj',fun k hk=>?_⟩,rfl⟩⟩
  ·have q2:=reqB_iff.1 ((rightP_iff.1 q).2.2.2.1 _ hmem);dsimp only at q2;omega
  ·by_cases c:k=j
   ·subst c;rw[hS,reqB_iff];dsimp only;omega
   ·exact hnn k (by omega)
 have hQ2:∀x∈Q,reqB (N-1) x=true:=fun x hx=>by
  obtain ⟨k,hk,rfl⟩:=List.getElem_of_mem hx;have:=hnn k (by omega);rwa [show Q.getD k dReq=Q[k] by simp[List.getD,hk]] at this
 have hji:¬(j:Int)<(Q.length:Int):=by omega
 dsimp only[x55_1,x55_1d,Z1,Z6,Z7,Za,Zb,Zc,Zd,Ze,Zg];simp only[↓hcsR20,entIn20,entTi20,entPs20,entRRoad,entRi19,hj',hji,go_sem];try simp only[hj',hji,td,reduceCtorEq]
 refine XW_for 3000 x55_2d [0] Nat (fun j=>[(7,.val Z1 (j:Int))]) (fun _=>[]) (fun j=>j≤P.length∧∀k,k<j→prB (P.getD k (0,0,false))=true) (fun j=>P.length-j) 0 ?_ ?_ ?_
 ·dsimp only[x55_2d];simp only[go_sem];try trivial
 ·exact ⟨Nat.zero_le _,fun k hk=>absurd hk (Nat.not_lt_zero _)⟩
 rintro j ⟨hj,hnn⟩;by_cases hj':j<P.length
 ·have w2:IntKind.i64.wrap ((j:Int)+1)=((j+1:Nat):Int):=i64_in _ (by omega);have hji:(j:Int)<(P.length:Int):=by omega
  have hmem:=getD_mem2 (d:=((0,0,false):DPair)) hj';generalize hS:P.getD j (0,0,false)=x at hmem;obtain ⟨a,b,m⟩:=x;dsimp only[x55_2,x55_2d,Z1,Z14,Z20,Za,Zb,Zc,Zd,Ze,Zg];simp only[↓hcsR20,entIn20,entTi20,entPs20,entRRoad,entRi19,hj',hji,hS,w2,go_sem];try simp only[hj',hji,hS,w2,i3_iff,i3_not,td,reduceCtorEq]
  refine ⟨fun h=>hno fun q=>?_,fun h=>⟨j+1,by omega,⟨hj',fun k hk=>?_⟩,rfl⟩⟩
  ·have q2:=prB_iff.1 ((rightP_iff.1 q).2.2.2.2.1 _ hmem);dsimp only at q2;omega
  ·by_cases c:k=j
   ·subst c;rw[hS,prB_iff];dsimp only;omega
   ·exact hnn k (by omega)
 have hP2:∀x∈P,prB x=true:=fun x hx=>by
  obtain ⟨k,hk,rfl⟩:=List.getElem_of_mem hx;have:=hnn k (by omega);rwa [show P.getD k (0,0,false)=P[k] by simp[List.getD,hk]] at this
 have hji:¬(j:Int)<(P.length:Int):=by omega
 dsimp only[x55_2,x55_2d,Z1,Z14,Z20,Za,Zb,Zc,Zd,Ze,Zg];simp only[↓hcsR20,entIn20,entTi20,entPs20,entRRoad,entRi19,hj',hji,go_sem];try simp only[hj',hji,td,reduceCtorEq]
 rw[Bool.eq_iff_iff,rightP_iff];exact ⟨fun h=>⟨h1,⟨by dsimp only;omega,by dsimp only;omega,by dsimp only;omega⟩,hC2,hQ2,hP2,h⟩,fun h=>h.2.2.2.2.2⟩
end T
end Go.Proofs.YtcnfmabhghhdnaaGreat
end
