/- Parts of the proof of the law; no condition. -/
import Derived.Test.YtpocfbfmjippnaaGreatH31
set_option linter.all false
section
namespace Go.Proofs.YtpocfbfmjippnaaGreat
open Go.RowKit Go.IntWalk
namespace T
def entHlp:Ent:=⟨32,.cons Z23 (.cons Z1 .nil),Z23,false,none,fun x=>List.length (α:=DPlan) x.1≤1000,fun x=>helpF x.1 x.2.1⟩
def csHlp:List Ent:=[] theorem hcsHlp (f:FuncId):findEnt csHlp f=findEnt [] f:=rfl
theorem conHlp:Con Tryz.prog entHlp:=by
 refine con_is (C:=csHlp) x32 (by kernel_rfl) (by simp[csHlp]) fun x hx hf=>?_;obtain ⟨(ps:List DPlan),(b:Int),_⟩:=x;have hl:ps.length≤1000:=hx;dsimp only[entHlp,x32];simp only[↓hcsHlp,undef,go_sem];try simp only[td,reduceCtorEq]
 refine XW_for 1000 x32_0d [] Nat (fun j=>[(10,.val Z1 (j:Int)),(5,.own 1)]) (fun j=>[(1,.row 65 Z22 (helpF (ps.take j) b))]) (fun j=>j≤ps.length) (fun j=>ps.length-j) 0 ?_ ?_ ?_
 ·dsimp only[x32_0d];simp only[go_sem];first|done|exact ⟨rfl,rfl⟩|rfl
 ·exact Nat.zero_le _
 intro j hj;dsimp only[x32_0,x32_0d];by_cases hj':j<ps.length
 case neg=>
  obtain rfl:j=ps.length:=by omega
  rw[List.take_length];simp only[↓hcsHlp,undef,hj',go_sem];try simp only[hj',td,reduceCtorEq]
 have w1:IntKind.i64.wrap ((j:Int)+1)=((j+1:Nat):Int):=i64_in _ (by omega);have hA:=helpF_at (b:=b) hj';have hB:((helpF (ps.take j) b).length+1)*80≤140737488355328:=by have:=helpF_len (ps.take j) b;rw[List.length_take] at this;omega
 obtain ⟨⟨c,ss,L,G⟩,hP⟩:∃p:DPlan,ps.getD j (0,[],[],[])=p:=⟨_,rfl⟩;dsimp only[dPln] at hA;rw[hP] at hA;dsimp only at hA;by_cases hc:c=b
 ·rw[if_pos hc] at hA;simp only[↓hcsHlp,undef,hj',w1,hP,hc,go_sem];try simp only[hj',w1,hP,hc,td,reduceCtorEq]
  exact ⟨j+1,by omega,by omega,rfl,hA.symm⟩
 ·rw[if_neg hc] at hA;simp only[↓hcsHlp,undef,hj',w1,hP,hc,hB,go_sem];try simp only[hj',w1,hP,hc,hB,td,reduceCtorEq]
  exact ⟨j+1,by omega,by omega,rfl,hA.symm⟩
def entHlR:Ent:=⟨19,.cons Z23 (.cons Z1 .nil),Z23,false,none,fun x=>List.length (α:=DPlan) x.1≤1000,fun x=>helpF x.1 x.2.1⟩
def csHlR:List Ent:=[] theorem hcsHlR (f:FuncId):findEnt csHlR f=findEnt [] f:=rfl
theorem conHlR:Con Tryz.prog entHlR:=by
 refine con_is (C:=csHlR) x19 (by kernel_rfl) (by simp[csHlR]) fun x hx hf=>?_;obtain ⟨(ps:List DPlan),(b:Int),_⟩:=x;have hl:ps.length≤1000:=hx;dsimp only[entHlR,x19];simp only[↓hcsHlR,undef,go_sem];try simp only[td,reduceCtorEq]
 refine XW_for 1000 x19_0d [] Nat (fun j=>[(6,.val Z1 (j:Int)),(5,.own 1)]) (fun j=>[(1,.row 65 Z22 (helpF (ps.take j) b))]) (fun j=>j≤ps.length) (fun j=>ps.length-j) 0 ?_ ?_ ?_
 ·dsimp only[x19_0d];simp only[go_sem];first|done|exact ⟨rfl,rfl⟩|rfl
 ·exact Nat.zero_le _
 intro j hj;dsimp only[x19_0,x19_0d];by_cases hj':j<ps.length
 case neg=>
  obtain rfl:j=ps.length:=by omega
  rw[List.take_length];simp only[↓hcsHlR,undef,hj',go_sem];try simp only[hj',td,reduceCtorEq]
 have w1:IntKind.i64.wrap ((j:Int)+1)=((j+1:Nat):Int):=i64_in _ (by omega);have hA:=helpF_at (b:=b) hj';have hB:((helpF (ps.take j) b).length+1)*80≤140737488355328:=by have:=helpF_len (ps.take j) b;rw[List.length_take] at this;omega
 obtain ⟨⟨c,ss,L,G⟩,hP⟩:∃p:DPlan,ps.getD j (0,[],[],[])=p:=⟨_,rfl⟩;dsimp only[dPln] at hA;rw[hP] at hA;dsimp only at hA;by_cases hc:c=b
 ·rw[if_pos hc] at hA;simp only[↓hcsHlR,undef,hj',w1,hP,hc,go_sem];try simp only[hj',w1,hP,hc,td,reduceCtorEq]
  exact ⟨j+1,by omega,by omega,rfl,hA.symm⟩
 ·rw[if_neg hc] at hA;simp only[↓hcsHlR,undef,hj',w1,hP,hc,hB,go_sem];try simp only[hj',w1,hP,hc,hB,td,reduceCtorEq]
  exact ⟨j+1,by omega,by omega,rfl,hA.symm⟩
def entLsP:Ent:=⟨36,.cons Z5 (.cons Z5 .nil),(.int .i64),false,none,fun x=>List.length (α:=Int) x.1≤1000∧List.length (α:=Int) x.2.1=List.length (α:=Int) x.1,fun x=>lessP x.1 x.2.1⟩
def csLsP:List Ent:=[] theorem hcsLsP (f:FuncId):findEnt csLsP f=findEnt [] f:=rfl
theorem conLsP:Con Tryz.prog entLsP:=by
 refine con_is (C:=csLsP) x36 (by kernel_rfl) (by simp[csLsP]) fun x hx hf=>?_;obtain ⟨(a:List Int),(b:List Int),_⟩:=x;obtain ⟨hl,hb⟩:a.length≤1000∧b.length=a.length:=hx;dsimp only[entLsP,x36];simp only[↓hcsLsP,undef,go_sem];try simp only[td,reduceCtorEq]
 have hr:=fun j=>lost_rng (a.take j);have hr':=fun j=>lost_rng (b.take j);refine XW_for 1000 x36_0d [] Nat (fun j=>[(12,.val Z1 (j:Int)),(5,.val Z1 (lostN (a.take j)-lostN (b.take j))),(6,.val Z1 (frstL (a.take j) (b.take j)))]) (fun _=>[]) (fun j=>j≤a.length) (fun j=>a.length-j) 0 ?_ ?_ ?_
 ·dsimp only[x36_0d];simp only[go_sem];first|done|exact ⟨rfl,rfl,rfl⟩|exact ⟨rfl,rfl⟩|rfl
 ·exact Nat.zero_le _
 intro j hj;dsimp only[x36_0,x36_0d];by_cases hj':j<a.length
 case neg=>
  obtain rfl:j=a.length:=by omega
  rw[List.take_length,List.take_of_length_le (by omega:b.length≤a.length)];by_cases h0:lostN a-lostN b=0
  ·have hF:lessP a b=frstL a b:=by unfold lessP;rw[if_neg (Decidable.not_not.2 h0)]
   simp only[↓hcsLsP,undef,hj',h0,hF,go_sem];try simp only[hj',h0,hF,td,reduceCtorEq]
  ·have hF:lessP a b=lostN a-lostN b:=by unfold lessP;rw[if_pos h0]
   simp only[↓hcsLsP,undef,hj',h0,hF,go_sem];try simp only[hj',h0,hF,td,reduceCtorEq]
 have w1:IntKind.i64.wrap ((j:Int)+1)=((j+1:Nat):Int):=i64_in _ (by omega);have h1:=lost_at hj';have hjb:j<b.length:=by omega
 have h2:=lost_at hjb;have h3:=frst_at hj' hjb;have ra:=hr j;have rb:=hr' j;rw[List.length_take] at ra rb;obtain ⟨x,hX⟩:∃x,a.getD j 0=x:=⟨_,rfl⟩;obtain ⟨y,hY⟩:∃x,b.getD j 0=x:=⟨_,rfl⟩;rw[hX] at h1 h3;rw[hY] at h2 h3;generalize lostN (a.take j)=u at*;generalize lostN (b.take j)=v at*;generalize frstL (a.take j) (b.take j)=z at*;have wp:IntKind.i64.wrap (u-v+1)=u-v+1:=i64_in _ (by omega);have wm:IntKind.i64.wrap (u-v-1)=u-v-1:=i64_in _ (by omega);by_cases hx0:x<0
 ·rw[if_pos hx0] at h1;by_cases hy0:y<0
  ·rw[if_pos hy0] at h2;replace h3:frstL (a.take (j+1)) (b.take (j+1))=z:=by
    rw[h3];by_cases hz:z=0
    ·rw[if_pos hz,if_neg (by omega),if_neg (by omega),hz]
    ·rw[if_neg hz]
   simp only[↓hcsLsP,undef,hj',hjb,w1,hX,hY,hx0,hy0,go_sem];try simp only[hj',hjb,w1,hX,hY,hx0,hy0,td,reduceCtorEq]
   refine ⟨j+1,by omega,by omega,rfl,?_,?_⟩
   ·rw[h1,h2];show (_:Int)=_;omega
   ·exact h3.symm
  ·rw[if_neg hy0] at h2;replace h3:frstL (a.take (j+1)) (b.take (j+1))=if z=0 then 1 else z:=by
    rw[h3];by_cases hz:z=0
    ·rw[if_pos hz,if_pos hz,if_pos (by omega)]
    ·rw[if_neg hz,if_neg hz]
   by_cases hz:z=0
   ·rw[if_pos hz] at h3;simp only[↓hcsLsP,undef,hj',hjb,w1,wp,hX,hY,hx0,hy0,hz,go_sem];try simp only[hj',hjb,w1,wp,hX,hY,hx0,hy0,hz,td,reduceCtorEq]
    refine ⟨j+1,by omega,by omega,rfl,?_,?_⟩
    ·rw[h1,h2];show (_:Int)=_;omega
    ·rw[h3]
   ·rw[if_neg hz] at h3;simp only[↓hcsLsP,undef,hj',hjb,w1,wp,hX,hY,hx0,hy0,hz,go_sem];try simp only[hj',hjb,w1,wp,hX,hY,hx0,hy0,hz,td,reduceCtorEq]
    refine ⟨j+1,by omega,by omega,rfl,?_,?_⟩
    ·rw[h1,h2];show (_:Int)=_;omega
    ·rw[h3]
 ·rw[if_neg hx0] at h1;by_cases hy0:y<0
  ·rw[if_pos hy0] at h2;replace h3:frstL (a.take (j+1)) (b.take (j+1))=if z=0 then-1 else z:=by
    rw[h3];by_cases hz:z=0
    ·rw[if_pos hz,if_pos hz,if_neg (by omega),if_pos (by omega)]
    ·rw[if_neg hz,if_neg hz]
   by_cases hz:z=0
   ·rw[if_pos hz] at h3;simp only[↓hcsLsP,undef,hj',hjb,w1,wm,hX,hY,hx0,hy0,hz,go_sem];try simp only[hj',hjb,w1,wm,hX,hY,hx0,hy0,hz,td,reduceCtorEq]
    refine ⟨j+1,by omega,by omega,rfl,?_,?_⟩
    ·rw[h1,h2];show (_:Int)=_;omega
    ·rw[h3]
   ·rw[if_neg hz] at h3;simp only[↓hcsLsP,undef,hj',hjb,w1,wm,hX,hY,hx0,hy0,hz,go_sem];try simp only[hj',hjb,w1,wm,hX,hY,hx0,hy0,hz,td,reduceCtorEq]
    refine ⟨j+1,by omega,by omega,rfl,?_,?_⟩
    ·rw[h1,h2];show (_:Int)=_;omega
    ·rw[h3]
  ·rw[if_neg hy0] at h2;replace h3:frstL (a.take (j+1)) (b.take (j+1))=z:=by
    rw[h3];by_cases hz:z=0
    ·rw[if_pos hz,if_neg (by omega),if_neg (by omega),hz]
    ·rw[if_neg hz]
   simp only[↓hcsLsP,undef,hj',hjb,w1,hX,hY,hx0,hy0,go_sem];try simp only[hj',hjb,w1,hX,hY,hx0,hy0,td,reduceCtorEq]
   refine ⟨j+1,by omega,by omega,rfl,?_,?_⟩
   ·rw[h1,h2];show (_:Int)=_;omega
   ·exact h3.symm
end T
end Go.Proofs.YtpocfbfmjippnaaGreat
end
