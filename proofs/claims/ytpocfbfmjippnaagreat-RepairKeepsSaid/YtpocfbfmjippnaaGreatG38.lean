/- Parts of the proof of the law; no condition. -/
import Derived.Test.YtpocfbfmjippnaaGreatG34
set_option linter.all false
section
namespace Go.Proofs.YtpocfbfmjippnaaGreat
open Go.RowKit Go.IntWalk
namespace T
def powF (n:Int):Nat→Int
 |0=>1
 |k+1=>powF n k*n
theorem powF_rng {n:Int} (h0:0≤n) (h1:n≤4):∀k,k≤4→0≤powF n k∧powF n k≤4^k
 |0,_=>⟨by show (0:Int)≤1;decide,by show (1:Int)≤1;decide⟩
 |k+1,hk=>by
  obtain ⟨a,b⟩:=powF_rng h0 h1 k (by omega);show 0≤powF n k*n∧powF n k*n≤4^(k+1);rw[Int.pow_succ];exact ⟨Int.mul_nonneg a h0,Int.mul_le_mul b h1 h0 (Int.le_trans a b)⟩
def entPow:Ent:=⟨113,.cons Z1 (.cons Z1 .nil),(.int .i64),false,none,fun x=>(0≤(x.1:Int)∧(x.1:Int)≤4)∧0≤(x.2.1:Int)∧(x.2.1:Int)≤4,fun x=>powF x.1 (Int.toNat x.2.1)⟩
def csPow:List Ent:=[] theorem hcsPow (f:FuncId):findEnt csPow f=findEnt [] f:=rfl
theorem conPow:Con Tryz.prog entPow:=by
 refine con_is (C:=csPow) x113 (by kernel_rfl) (by simp[csPow]) fun x hx hf=>?_;obtain ⟨(n:Int),(b:Int),_⟩:=x;obtain ⟨⟨hn0,hn1⟩,hb0,hb1⟩:(0≤n∧n≤4)∧0≤b∧b≤4:=hx;obtain ⟨m,rfl⟩:∃m:Nat,b=m:=⟨b.toNat,by omega⟩;dsimp only[entPow,x113];simp only[↓hcsPow,undef,go_sem];try simp only[td,reduceCtorEq]
 have hr:=powF_rng hn0 hn1;refine XW_for 1000 x113_0d [] Nat (fun j=>[(7,.val Z1 (j:Int)),(5,.val Z1 (powF n j))]) (fun _=>[]) (fun j=>j≤m) (fun j=>m-j) 0 ?_ ?_ ?_
 ·dsimp only[x113_0d];simp only[go_sem];first|done|exact ⟨rfl,rfl⟩|rfl
 ·exact Nat.zero_le _
 intro j hj;dsimp only[x113_0,x113_0d];by_cases hj':j<m
 case neg=>
  obtain rfl:j=m:=by omega
  simp only[↓hcsPow,undef,hj',go_sem];try simp only[hj',td,reduceCtorEq]
 have w1:IntKind.i64.wrap ((j:Int)+1)=((j+1:Nat):Int):=i64_in _ (by omega);have h2:=hr (j+1) (by omega);have h4:(4:Int)^(j+1)≤256:=by
  rcases (by omega:j=0∨j=1∨j=2∨j=3) with rfl|rfl|rfl|rfl<;>decide
 have w2:IntKind.i64.wrap (powF n j*n)=powF n (j+1):=i64_in _ (by show _≤powF n (j+1)∧powF n (j+1)≤_;omega);simp only[↓hcsPow,undef,hj',w1,w2,go_sem];try simp only[hj',w1,w2,td,reduceCtorEq]
 exact ⟨j+1,by omega,by omega,rfl,rfl⟩
def entFst:Ent:=⟨49,.cons Z1 .nil,(.int .i64),false,none,fun _=>True,fun x=>if (x.1:Int)=0 then-1 else 0⟩
def csFst:List Ent:=[] theorem hcsFst (f:FuncId):findEnt csFst f=findEnt [] f:=rfl
theorem conFst:Con Tryz.prog entFst:=by
 refine con_is (C:=csFst) x49 (by kernel_rfl) (by simp[csFst]) fun x hx hf=>?_;obtain ⟨(n:Int),_⟩:=x;dsimp only[entFst,x49];by_cases h:n=0<;>
 ·simp only[↓hcsFst,undef,h,go_sem];try simp only[h,td,reduceCtorEq]
def entCpF:Ent:=⟨68,.cons Z23 .nil,Z23,false,some 65,fun x=>List.length (α:=DPlan) x.1≤1000000,fun x=>x.1⟩
def csCpF:List Ent:=[] theorem hcsCpF (f:FuncId):findEnt csCpF f=findEnt [] f:=rfl
theorem conCpF:Con Tryz.prog entCpF:=by
 refine con_is (C:=csCpF) x68 (by kernel_rfl) (by simp[csCpF]) fun x hx hf=>?_;obtain ⟨(S:List DPlan),_⟩:=x;have hS:S.length≤1000000:=hx;dsimp only[entCpF,x68];simp only[↓hcsCpF,go_sem];try simp only[td,reduceCtorEq]
 exact ⟨fun q=>q.symm,by omega⟩
def entCpD:Ent:=⟨68,.cons Z23 .nil,Z23,false,none,fun x=>List.length (α:=DPlan) x.1≤1000000,fun x=>x.1⟩
def csCpD:List Ent:=[] theorem hcsCpD (f:FuncId):findEnt csCpD f=findEnt [] f:=rfl
theorem conCpD:Con Tryz.prog entCpD:=by
 refine con_is (C:=csCpD) x68 (by kernel_rfl) (by simp[csCpD]) fun x hx hf=>?_;obtain ⟨(S:List DPlan),_⟩:=x;have hS:S.length≤1000000:=hx;dsimp only[entCpD,x68];simp only[↓hcsCpD,go_sem];try simp only[td,reduceCtorEq]
 exact ⟨fun q=>q.symm,by omega⟩
def entCiF:Ent:=⟨67,.cons Z5 .nil,Z5,false,some 3,fun x=>List.length (α:=Int) x.1≤1000000,fun x=>x.1⟩
def csCiF:List Ent:=[] theorem hcsCiF (f:FuncId):findEnt csCiF f=findEnt [] f:=rfl
theorem conCiF:Con Tryz.prog entCiF:=by
 refine con_is (C:=csCiF) x67 (by kernel_rfl) (by simp[csCiF]) fun x hx hf=>?_;obtain ⟨(S:List Int),_⟩:=x;have hS:S.length≤1000000:=hx;dsimp only[entCiF,x67];simp only[↓hcsCiF,go_sem];try simp only[td,reduceCtorEq]
 exact ⟨fun q=>q.symm,by omega⟩
def entCiD:Ent:=⟨67,.cons Z5 .nil,Z5,false,none,fun x=>List.length (α:=Int) x.1≤1000000,fun x=>x.1⟩
def csCiD:List Ent:=[] theorem hcsCiD (f:FuncId):findEnt csCiD f=findEnt [] f:=rfl
theorem conCiD:Con Tryz.prog entCiD:=by
 refine con_is (C:=csCiD) x67 (by kernel_rfl) (by simp[csCiD]) fun x hx hf=>?_;obtain ⟨(S:List Int),_⟩:=x;have hS:S.length≤1000000:=hx;dsimp only[entCiD,x67];simp only[↓hcsCiD,go_sem];try simp only[td,reduceCtorEq]
 exact ⟨fun q=>q.symm,by omega⟩
def entCsD:Ent:=⟨57,.cons Z15 .nil,Z15,false,none,fun x=>List.length (α:=DStop) x.1≤1000000,fun x=>x.1⟩
def csCsD:List Ent:=[] theorem hcsCsD (f:FuncId):findEnt csCsD f=findEnt [] f:=rfl
theorem conCsD:Con Tryz.prog entCsD:=by
 refine con_is (C:=csCsD) x57 (by kernel_rfl) (by simp[csCsD]) fun x hx hf=>?_;obtain ⟨(S:List DStop),_⟩:=x;have hS:S.length≤1000000:=hx;dsimp only[entCsD,x57];simp only[↓hcsCsD,go_sem];try simp only[td,reduceCtorEq]
 exact ⟨fun q=>q.symm,by omega⟩
def entCgD:Ent:=⟨71,.cons Z9 .nil,Z9,false,none,fun x=>List.length (α:=DLeg) x.1≤1000000,fun x=>x.1⟩
def csCgD:List Ent:=[] theorem hcsCgD (f:FuncId):findEnt csCgD f=findEnt [] f:=rfl
theorem conCgD:Con Tryz.prog entCgD:=by
 refine con_is (C:=csCgD) x71 (by kernel_rfl) (by simp[csCgD]) fun x hx hf=>?_;obtain ⟨(S:List DLeg),_⟩:=x;have hS:S.length≤1000000:=hx;dsimp only[entCgD,x71];simp only[↓hcsCgD,go_sem];try simp only[td,reduceCtorEq]
 exact ⟨fun q=>q.symm,by omega⟩
def entCop:Ent:=⟨37,.cons Z23 .nil,Z23,false,none,fun x=>List.length (α:=DPlan) x.1≤1000∧∀p∈(x.1:List DPlan),p.2.1.length≤1000000∧p.2.2.1.length≤1000000∧p.2.2.2.length≤1000000,fun x=>x.1⟩
def csCop:List Ent:=[entCsD,entCgD,entCiD] theorem hcsCop (f:FuncId):findEnt csCop f=findEnt [entCsD,entCgD,entCiD] f:=rfl
theorem conCop:Con Tryz.prog entCop:=by
 refine con_is (C:=csCop) x37 (by kernel_rfl) (by simp[csCop,conCsD,conCgD,conCiD]) fun x hx hf=>?_;obtain ⟨(ps:List DPlan),_⟩:=x;obtain ⟨hl,hp⟩:ps.length≤1000∧∀p∈ps,p.2.1.length≤1000000∧p.2.2.1.length≤1000000∧p.2.2.2.length≤1000000:=hx;dsimp only[entCop,x37];simp only[↓hcsCop,entCsD,entCgD,entCiD,undef,go_sem];try simp only[td,reduceCtorEq]
 refine XW_for 1000 x37_0d [] Nat (fun j=>[(8,.val Z1 (j:Int)),(3,.own 1)]) (fun j=>[(1,.row 65 Z22 (ps.take j))]) (fun j=>j≤ps.length) (fun j=>ps.length-j) 0 ?_ ?_ ?_
 ·dsimp only[x37_0d];simp only[go_sem];first|done|exact ⟨rfl,rfl⟩|rfl
 ·exact Nat.zero_le _
 intro j hj;dsimp only[x37_0,x37_0d];by_cases hj':j<ps.length
 case neg=>
  obtain rfl:j=ps.length:=by omega
  rw[List.take_length];simp only[↓hcsCop,undef,hj',go_sem];try simp only[hj',td,reduceCtorEq]
 have w1:IntKind.i64.wrap ((j:Int)+1)=((j+1:Nat):Int):=i64_in _ (by omega);have hB:((ps.take j).length+1)*80≤140737488355328:=by rw[List.length_take];omega
 have ht:=take_nx (d:=dPln) hj';have hm:=hp (ps.getD j dPln) (by simp[List.getD,hj']);obtain ⟨⟨c,ss,L,G⟩,hP⟩:∃p:DPlan,ps.getD j (0,[],[],[])=p:=⟨_,rfl⟩;dsimp only[dPln] at ht hm;rw[hP] at ht hm;obtain ⟨m1,m2,m3⟩:=hm;dsimp only at m1 m2 m3;simp only[↓hcsCop,entCsD,entCgD,entCiD,undef,hj',w1,hP,hB,m1,m2,m3,go_sem];try simp only[hj',w1,hP,hB,m1,m2,m3,td,reduceCtorEq]
 exact ⟨j+1,by omega,by omega,rfl,ht.symm⟩
def entIn38:Ent:=⟨21,.cons Z5 (.cons Z1 .nil),.bool,false,none,fun _=>True,fun x=>decide ((x.2.1:Int)∈(x.1:List Int))⟩
def csIn38:List Ent:=[] theorem hcsIn38 (f:FuncId):findEnt csIn38 f=findEnt [] f:=rfl
theorem conIn38:Con Tryz.prog entIn38:=by
 refine con_is (C:=csIn38) x21 (by kernel_rfl) (by simp[csIn38]) fun x hx hf=>?_;obtain ⟨(l:List Int),(n:Int),_⟩:=x;have hl:l.length≤9223372036854775807:=hf.1.1;dsimp only[entIn38,x21];simp only[↓hcsIn38,undef,go_sem];try simp only[td,reduceCtorEq]
 refine XW_for 1000 x21_0d [] Nat (fun j=>[(5,.val Z1 (j:Int))]) (fun _=>[]) (fun j=>j≤l.length∧n∉l.take j) (fun j=>l.length-j) 0 ?_ ?_ ?_
 ·dsimp only[x21_0d];simp only[go_sem];first|done|rfl|trivial
 ·exact ⟨Nat.zero_le _,by simp⟩
 rintro j ⟨hj,hn⟩;dsimp only[x21_0,x21_0d];by_cases hj':j<l.length
 case neg=>
  obtain rfl:j=l.length:=by omega
  rw[List.take_length] at hn;simp only[↓hcsIn38,undef,hj',hn,go_sem];try simp only[hj',hn,td,reduceCtorEq]
 have w1:IntKind.i64.wrap ((j:Int)+1)=((j+1:Nat):Int):=i64_in _ (by omega);have ht:=take_nx (d:=0) hj';have hm:l.getD j 0∈l:=by simp[List.getD,hj']
 obtain ⟨y,hY⟩:∃y,l.getD j 0=y:=⟨_,rfl⟩;rw[hY] at ht hm;by_cases hy:y=n
 ·subst hy;simp only[↓hcsIn38,undef,hj',hY,hm,go_sem];try simp only[hj',hY,hm,td,reduceCtorEq]
 ·simp only[↓hcsIn38,undef,hj',w1,hY,hy,go_sem];try simp only[hj',w1,hY,hy,td,reduceCtorEq]
  refine ⟨j+1,by omega,⟨by omega,?_⟩,rfl⟩;rw[ht,List.mem_append,List.mem_singleton];exact fun z=>z.elim hn fun e=>hy e.symm
end T
end Go.Proofs.YtpocfbfmjippnaaGreat
end
