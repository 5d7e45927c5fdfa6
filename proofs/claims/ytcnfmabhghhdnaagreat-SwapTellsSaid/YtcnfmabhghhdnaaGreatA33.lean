/- Parts of the proof of the law; no condition. -/
import Derived.Test.YtcnfmabhghhdnaaGreatA32
set_option linter.all false
section
namespace Go.Proofs.YtcnfmabhghhdnaaGreat
open Go.RowKit Go.IntWalk
namespace T
def entClF:Ent:=⟨44,.cons Z12 .nil,Z12,false,some 94,fun x=>List.length (α:=DStop) x.1≤1000000,fun x=>x.1⟩
def csClF:List Ent:=[] theorem hcsClF (f:FuncId):findEnt csClF f=findEnt [] f:=rfl
theorem conClF:Con Tryz.prog entClF:=by
 refine con_is (C:=csClF) x44 (by kernel_rfl) (by simp[csClF]) fun x hx hf=>?_;obtain ⟨(S:List DStop),_⟩:=x;have hS:S.length≤1000000:=hx;dsimp only[entClF,x44,Z8,Za,Zb,Zg];simp only[↓hcsClF,go_sem];try simp only[td,reduceCtorEq]
 exact ⟨fun q=>q.symm,by omega⟩
def entClP:Ent:=⟨54,.cons Z22 .nil,Z22,false,some 56,fun x=>List.length (α:=DPlan) x.1≤1000000,fun x=>x.1⟩
def csClP:List Ent:=[] theorem hcsClP (f:FuncId):findEnt csClP f=findEnt [] f:=rfl
theorem conClP:Con Tryz.prog entClP:=by
 refine con_is (C:=csClP) x54 (by kernel_rfl) (by simp[csClP]) fun x hx hf=>?_;obtain ⟨(S:List DPlan),_⟩:=x;have hS:S.length≤1000000:=hx;dsimp only[entClP,x54,Z13,Za,Zb,Zg];simp only[↓hcsClP,go_sem];try simp only[td,reduceCtorEq]
 exact ⟨fun q=>q.symm,by omega⟩
def entClL:Ent:=⟨60,.cons Z3 .nil,Z3,false,none,fun x=>List.length (α:=DLeg) x.1≤1000000,fun x=>x.1⟩
def csClL:List Ent:=[] theorem hcsClL (f:FuncId):findEnt csClL f=findEnt [] f:=rfl
theorem conClL:Con Tryz.prog entClL:=by
 refine con_is (C:=csClL) x60 (by kernel_rfl) (by simp[csClL]) fun x hx hf=>?_;obtain ⟨(S:List DLeg),_⟩:=x;have hS:S.length≤1000000:=hx;dsimp only[entClL,x60,Z2,Za,Zb,Zg];simp only[↓hcsClL,go_sem];try simp only[td,reduceCtorEq]
 exact ⟨fun q=>q.symm,by omega⟩
def entClI:Ent:=⟨61,.cons Z10 .nil,Z10,false,none,fun x=>List.length (α:=Int) x.1≤1000000,fun x=>x.1⟩
def csClI:List Ent:=[] theorem hcsClI (f:FuncId):findEnt csClI f=findEnt [] f:=rfl
theorem conClI:Con Tryz.prog entClI:=by
 refine con_is (C:=csClI) x61 (by kernel_rfl) (by simp[csClI]) fun x hx hf=>?_;obtain ⟨(S:List Int),_⟩:=x;have hS:S.length≤1000000:=hx;dsimp only[entClI,x61,Z1,Za,Zb,Zg];simp only[↓hcsClI,go_sem];try simp only[td,reduceCtorEq]
 exact ⟨fun q=>q.symm,by omega⟩
def entPks:Ent:=⟨51,.cons Z12 (.cons Z1 .nil),.bool,false,none,fun _=>True,fun x=>decide (((x.2.1:Int),true)∈(x.1:List DStop))⟩
def csPks:List Ent:=[entCtS] theorem hcsPks (f:FuncId):findEnt csPks f=findEnt [entCtS] f:=rfl
theorem conPks:Con Tryz.prog entPks:=by
 refine con_is (C:=csPks) x51 (by kernel_rfl) (by simp[csPks,conCtS]) fun x hx hf=>?_;obtain ⟨(ss:List DStop),(r:Int),_⟩:=x;dsimp only[entPks,x51,Z1,Z8,Za,Zb,Zg];simp only[↓hcsPks,entCtS,undef,go_sem]
def entIdxFuncStp:Ent:=⟨147,.cons Z12 (.cons (.fn Z8 .bool) .nil),(.int .i64),false,none,fun _=>True,fun x=>idxF x.2.1 x.1⟩
theorem conIdxFuncStp:Con Tryz.prog entIdxFuncStp:=by
 refine con_is (C:=[]) x147 (by kernel_rfl) (by simp) fun x _ hf=>?_;obtain ⟨(xs:List DStop),(p:DStop→Bool),_⟩:=x;have hl:xs.length≤maxLen:=hf.1.1;dsimp only[entIdxFuncStp,x147,Zb,Zg];simp only[go_sem];refine XW_for 1000 x147_0d [] Nat (fun k=>[(8,.val Z1 (k:Int))]) (fun _=>[]) (fun k=>k≤xs.length∧∀j,j<k→p (xs.getD j dStop)=false) (fun k=>xs.length-k) 0 ?_ ?_ ?_
 ·dsimp only[x147_0d];simp only[go_sem];rfl
 ·exact ⟨by omega,fun j hj=>by omega⟩
 ·intro k hk;dsimp only[x147_0,x147_0d,Z8,Za,Zb,Zg];simp only[go_sem];dsimp only[maxLen] at hl;by_cases hkl:k<xs.length
  ·simp only[hkl,td,reduceCtorEq];refine ⟨fun h=>(idxF_at hkl hk.2 h).symm,fun h=>⟨k+1,by omega,⟨by omega,fun j hj=>?_⟩,i64_in _ (by omega)⟩⟩;rcases Nat.lt_succ_iff_lt_or_eq.1 hj with h'|rfl
   ·exact hk.2 j h'
   ·exact h
  ·simp only[hkl,td,reduceCtorEq];exact (idxF_none fun j hj=>hk.2 j (by omega)).symm
def entWo1:Ent:=⟨100,.cons Z8 (.cons (.ptr (.int .i64)) .nil),.bool,false,none,fun _=>True,fun x=>decide ((x.1:DStop).1=x.2.1)⟩
def csWo1:List Ent:=[] theorem hcsWo1 (f:FuncId):findEnt csWo1 f=findEnt [] f:=rfl
theorem conWo1:Con Tryz.prog entWo1:=by
 refine con_is (C:=csWo1) x100 (by kernel_rfl) (by simp[csWo1]) fun x hx hf=>?_;obtain ⟨⟨(n:Int),(b:Bool)⟩,(m:Int),_⟩:=x;dsimp only[entWo1,x100,Z1,Zb,Zg];simp only[↓hcsWo1,go_sem];try simp only[td,reduceCtorEq]
 rfl
theorem idxF_fst {α:Type} {p:α→Bool} {d:α}:∀{l:List α} {i:Nat},(i:Int)<idxF p l→p (l.getD i d)=false
 |[],i,h=>by simp[idxF] at h;omega
 |x::r,i,h=>by
  unfold idxF at h;by_cases hx:p x=true
  ·rw[if_pos hx] at h;omega
  ·rw[if_neg hx] at h;split at h
   ·omega
   ·cases i with
    |zero=>simpa using hx
    |succ i=>simpa using idxF_fst (p:=p) (d:=d) (l:=r) (i:=i) (by omega)
theorem outS_take {L:List DStop} {r:Int} {j:Nat} (h:j<L.length):outS (L.take (j+1)) r=if (L.getD j dStop).1=r then outS (L.take j) r else outS (L.take j) r++[L.getD j dStop]:=by
 rw[take_next h,outS_append];by_cases c:(L.getD j dStop).1=r
 ·rw[if_pos c];have:outS [L.getD j dStop] r=[]:=by unfold outS;rw[List.filter_cons_of_neg (by simp only[decide_eq_true_eq];exact fun z=>z c)];rfl
  rw[this,List.append_nil]
 ·rw[if_neg c];have:outS [L.getD j dStop] r=[L.getD j dStop]:=by unfold outS;rw[List.filter_cons_of_pos (by simp only[decide_eq_true_eq];exact c)];rfl
  rw[this]
def entWo:Ent:=⟨52,.cons Z12 (.cons Z1 .nil),Z12,false,none,fun x=>List.length (α:=DStop) x.1≤1000000,fun x=>outS x.1 x.2.1⟩
def csWo:List Ent:=[entClF,entIdxFuncStp,entWo1] theorem hcsWo (f:FuncId):findEnt csWo f=findEnt [entClF,entIdxFuncStp,entWo1] f:=rfl
theorem conWo:Con Tryz.prog entWo:=by
 refine con_is (C:=csWo) x52 (by kernel_rfl) (by simp[csWo,conClF,conIdxFuncStp,conWo1]) fun x hx hf=>?_;obtain ⟨(L:List DStop),(r:Int),_⟩:=x;have hl:L.length≤1000000:=hx;dsimp only[entWo,x52,x99,Z8,Za,Zb,Zg];obtain ⟨i,hi⟩:∃i,idxF (fun x:DStop=>decide (x.1=r)) L=i:=⟨_,rfl⟩;have hrng:=idxF_range (fun x:DStop=>decide (x.1=r)) L;rw[hi] at hrng;by_cases h0:i= -1
 ·have hN:outS L r=L:=outS_none fun s hs z=>by
   have h1:L.any (fun x:DStop=>decide (x.1=r))=true:=List.any_eq_true.2 ⟨s,hs,decide_eq_true z⟩;have:=(idxF_any _ L).2 h1;omega
  simp only[↓hcsWo,entClF,entIdxFuncStp,entWo1,undef,hl,hi,h0,hN,go_sem];try simp only[hl,hi,h0,hN,td,reduceCtorEq]
 obtain ⟨k,rfl⟩:∃k:Nat,i=k:=⟨i.toNat,by omega⟩;have hkl:k<L.length:=by omega
 have hk:=idxF_hit (p:=fun x:DStop=>decide (x.1=r)) (d:=dStop) (l:=L) (by omega);rw[hi,Int.toNat_natCast] at hk;have hkr:(L.getD k dStop).1=r:=of_decide_eq_true hk.2;have hpre:outS (L.take k) r=L.take k:=outS_none fun s hs z=>by
  obtain ⟨j,hj,hjl,e⟩:=mem_take_lt hs;have h1:=idxF_fst (p:=fun x:DStop=>decide (x.1=r)) (d:=dStop) (l:=L) (i:=j) (by rw[hi];omega);rw[e] at h1;exact of_decide_eq_false h1 z
 have w1:IntKind.i64.wrap ((k:Int)+1)=((k+1:Nat):Int):=i64_in _ (by omega);simp only[↓hcsWo,entClF,entIdxFuncStp,entWo1,undef,hl,hi,h0,w1,go_sem];try simp only[hl,hi,h0,w1,td,reduceCtorEq]
 refine XW_for 1000 x99_0d [0,1,5] (Nat×List DStop) (fun s=>[(6,.val Z1 (s.1:Int)),(5,.val Z1 ((outS (L.take s.1) r).length:Int))]) (fun s=>[(3,.row 94 Z8 s.2)])
  (fun s=>(k<s.1∧s.1≤L.length)∧s.2.length=L.length∧s.2.take (outS (L.take s.1) r).length=outS (L.take s.1) r∧s.2.drop s.1=L.drop s.1) (fun s=>L.length-s.1) (k+1,L) ?_ ?_ ?_
 ·dsimp only[x99_0d];simp only[go_sem];rw[outS_take hkl,if_pos hkr,hpre,List.length_take,Nat.min_eq_left (by omega)]
 ·refine ⟨⟨Nat.lt_succ_self _,hkl⟩,rfl,?_,rfl⟩;dsimp only;rw[outS_take hkl,if_pos hkr,hpre,List.length_take,Nat.min_eq_left (by omega)]
 rintro ⟨j,R⟩ ⟨⟨hj1,hj⟩,hR,ht,hd⟩;dsimp only at hj1 hj hR ht hd;dsimp only[x99_0,x99_0d,x100,Z1,Z8,Za,Zb,Zc,Zd,Zg];by_cases hj':j<L.length
 ·have hjR:j<R.length:=by omega
  have w2:IntKind.i64.wrap ((j:Int)+1)=((j+1:Nat):Int):=i64_in _ (by omega);have hol:=outS_len (L.take j) r;rw[List.length_take,Nat.min_eq_left hj] at hol;have w3:IntKind.i64.wrap (((outS (L.take j) r).length:Int)+1)=(((outS (L.take j) r).length+1:Nat):Int):=i64_in _ (by omega);have hn:=outS_take (r:=r) hj';have hoR:(outS (L.take j) r).length<R.length:=by omega
  have hg:R.getD j dStop=L.getD j dStop:=by
   have h1:=congrArg (fun l:List DStop=>l.getD 0 dStop) hd;simpa [List.getD,List.getElem?_drop] using h1
  have hd1:R.drop (j+1)=L.drop (j+1):=by
   have h1:=congrArg (List.drop 1) hd;rw[List.drop_drop,List.drop_drop] at h1;exact h1
  by_cases c:(L.getD j dStop).1=r
  ·rw[if_pos c] at hn;simp only[↓hcsWo,entClF,entIdxFuncStp,entWo1,undef,hj',hR,hg,w2,w3,c,hoR,go_sem];try simp only[hj',hR,hg,w2,w3,c,hoR,td,reduceCtorEq]
   exact ⟨(j+1,R),by dsimp only;omega,⟨⟨by dsimp only;omega,by dsimp only;omega⟩,hR,by dsimp only;rw[hn];exact ht,hd1⟩,⟨rfl,by dsimp only;rw[hn]⟩,rfl⟩
  ·rw[if_neg c] at hn;simp only[↓hcsWo,entClF,entIdxFuncStp,entWo1,undef,hj',hR,hg,w2,w3,c,hoR,go_sem];try simp only[hj',hR,hg,w2,w3,c,hoR,td,reduceCtorEq]
   have hs:(R.set (outS (L.take j) r).length (L.getD j dStop)).take ((outS (L.take j) r).length+1)=outS (L.take j) r++[L.getD j dStop]:=by
    rw[List.set_eq_take_append_cons_drop,if_pos hoR,ht,List.take_append,List.take_of_length_le (by omega),show (outS (L.take j) r).length+1-(outS (L.take j) r).length=1 by omega];rfl
   refine ⟨by omega,(j+1,R.set (outS (L.take j) r).length (L.getD j dStop)),by dsimp only;omega,⟨⟨by dsimp only;omega,by dsimp only;omega⟩,by dsimp only;rw[List.length_set];exact hR,?_,?_⟩,⟨rfl,?_⟩,rfl⟩
   ·dsimp only;rw[hn,List.length_append,List.length_singleton];exact hs
   ·dsimp only;rw[List.drop_set_of_lt (by omega)];exact hd1
   ·dsimp only;rw[hn,List.length_append,List.length_singleton]
 ·obtain rfl:j=L.length:=by omega
  rw[List.take_length] at ht;simp only[↓hcsWo,entClF,entIdxFuncStp,entWo1,undef,hj',hR,List.take_length,go_sem];try simp only[hj',hR,List.take_length,td,reduceCtorEq]
  have ho:=outS_len L r;refine ⟨⟨by omega,Int.le_refl _⟩,⟨Int.le_refl _,?_⟩,?_⟩
  ·rw[ht,List.length_append];omega
  ·rw[ht,List.take_left]
def entSwW:Ent:=⟨53,.cons Z12 (.cons Z1 (.cons Z1 (.cons Z1 .nil))),Z12,false,none,fun x=>List.length (α:=DStop) x.1≤1000∧0≤(x.2.2.1:Int)∧(x.2.2.1:Int)≤x.2.2.2.1∧(x.2.2.2.1:Int)≤List.length (α:=DStop) x.1,fun x=>stopsI x.1 x.2.1 x.2.2.1 x.2.2.2.1⟩
def csSwW:List Ent:=[entClF,entInsStop] theorem hcsSwW (f:FuncId):findEnt csSwW f=findEnt [entClF,entInsStop] f:=rfl
theorem conSwW:Con Tryz.prog entSwW:=by
 refine con_is (C:=csSwW) x53 (by kernel_rfl) (by simp[csSwW,conClF,conInsStop]) fun x hx hf=>?_;obtain ⟨(ss:List DStop),(r:Int),(a:Int),(b:Int),_⟩:=x;obtain ⟨hl,a0,hab,b1⟩:ss.length≤1000∧0≤a∧a≤b∧b≤ss.length:=hx;have b0:0≤b:=by omega
 have hi:=insF_len ss (k:=b.toNat) (by omega) (r,false);have a1:a≤((insF ss b.toNat [(r,false)]).length:Int):=by omega
 have l1:ss.length≤1000000:=by omega
 have l2:(insF ss b.toNat [(r,false)]).length≤1000000:=by omega
 have e:stopsI ss r a b=insF (insF ss b.toNat [(r,false)]) a.toNat [(r,true)]:=by unfold stopsI;rw[if_neg (by omega)]
 dsimp only[entSwW,x53,Z1,Z8,Za,Zb,Zg];rw[e];simp only[↓hcsSwW,entClF,entInsStop,undef,a0,b0,b1,a1,l1,l2,go_sem];try simp only[a0,b0,b1,a1,l1,l2,td,reduceCtorEq]
theorem set_same {α:Type} (d:α) {l:List α} {i:Nat}:l.set i (l.getD i d)=l:=by
 refine List.ext_getElem? fun j=>?_;rw[List.getElem?_set];by_cases c:i=j
 ·subst c;rw[if_pos rfl];by_cases h:i<l.length
  ·rw[if_pos h];simp[List.getD,h]
  ·rw[if_neg h,List.getElem?_eq_none (by omega)]
 ·rw[if_neg c]
def entFrs:Ent:=⟨33,.cons Z22 .nil,Z22,false,none,fun x=>List.length (α:=DPlan) x.1≤1000000∧∀p∈(x.1:List DPlan),p.2.1.length≤1000000∧p.2.2.1.length≤1000000∧p.2.2.2.length≤1000000,fun x=>x.1⟩
def csFrs:List Ent:=[entClP,entClS,entClL,entClI] theorem hcsFrs (f:FuncId):findEnt csFrs f=findEnt [entClP,entClS,entClL,entClI] f:=rfl
theorem conFrs:Con Tryz.prog entFrs:=by
 refine con_is (C:=csFrs) x33 (by kernel_rfl) (by simp[csFrs,conClP,conClS,conClL,conClI]) fun x hx hf=>?_;obtain ⟨(ps:List DPlan),_⟩:=x;obtain ⟨hl,hp⟩:ps.length≤1000000∧∀p∈ps,p.2.1.length≤1000000∧p.2.2.1.length≤1000000∧p.2.2.2.length≤1000000:=hx;dsimp only[entFrs,x33,Z13,Za,Zb,Zg];simp only[↓hcsFrs,entClP,entClS,entClL,entClI,undef,hl,go_sem];try simp only[hl,td,reduceCtorEq]
 refine XW_for 1000 x33_0d [0,2] Nat (fun j=>[(10,.val Z1 (j:Int))]) (fun _=>[]) (fun j=>j≤ps.length) (fun j=>ps.length-j) 0 ?_ ?_ ?_
 ·dsimp only[x33_0d];simp only[go_sem];try rfl
 ·exact Nat.zero_le _
 intro j hj;dsimp only[x33_0,x33_0d,Z10,Z12,Z13,Z3,Za,Zb,Zc,Zf,Zg];by_cases hj':j<ps.length
 ·have w2:IntKind.i64.wrap ((j:Int)+1)=((j+1:Nat):Int):=i64_in _ (by omega);have hmem:ps.getD j dPlan∈ps:=by simp[List.getD,hj']
  have hb:=hp _ hmem;have hset:=set_same dPlan (l:=ps) (i:=j);dsimp only[dPlan] at hb hset;obtain ⟨⟨p1,p2,p3,p4⟩,hP⟩:∃p:DPlan,ps.getD j (0,[],[],[])=p:=⟨_,rfl⟩;rw[hP] at hb hset;obtain ⟨b1,b2,b3⟩:=hb;dsimp only at b1 b2 b3;simp only[↓hcsFrs,entClP,entClS,entClL,entClI,undef,hj',w2,hP,b1,b2,b3,hset,go_sem];try simp only[hj',w2,hP,b1,b2,b3,hset,td,reduceCtorEq]
  exact ⟨j+1,by omega,by omega,rfl⟩
 ·simp only[↓hcsFrs,entClP,entClS,entClL,entClI,undef,hj',go_sem];try simp only[hj',td,reduceCtorEq]
end T
end Go.Proofs.YtcnfmabhghhdnaaGreat
end
