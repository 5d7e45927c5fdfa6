/- Parts of the proof of the law; no condition. -/
import Derived.Test.YtpocfbfmjippnaaGreatG16
set_option linter.all false
section
namespace Go.Proofs.YtpocfbfmjippnaaGreat
open Go.RowKit Go.IntWalk
namespace T
def entClS:Ent:=⟨57,.cons Z15 .nil,Z15,false,none,fun x=>List.length (α:=DStop) x.1≤1000000,fun x=>x.1⟩
def csClS:List Ent:=[] theorem hcsClS (f:FuncId):findEnt csClS f=findEnt [] f:=rfl
theorem conClS:Con Tryz.prog entClS:=by
 refine con_is (C:=csClS) x57 (by kernel_rfl) (by simp[csClS]) fun x hx hf=>?_;obtain ⟨(S:List DStop),_⟩:=x;have hS:S.length≤1000000:=hx;dsimp only[entClS,x57];simp only[↓hcsClS,go_sem];try simp only[td,reduceCtorEq]
 exact ⟨fun q=>q.symm,by omega⟩
theorem ext_getD {α:Type} (d:α) {a b:List α} (hl:a.length=b.length) (h:∀i,i<a.length→a.getD i d=b.getD i d):a=b:=by
 refine List.ext_getElem hl fun i h1 h2=>?_;have:=h i h1;simpa [List.getD,h1,h2] using this
def entEqLg:Ent:=⟨43,.cons Z9 (.cons Z9 .nil),.bool,false,none,fun _=>True,fun x=>decide ((x.1:List DLeg)=x.2.1)⟩
def csEqLg:List Ent:=[] theorem hcsEqLg (f:FuncId):findEnt csEqLg f=findEnt [] f:=rfl
theorem conEqLg:Con Tryz.prog entEqLg:=by
 refine con_is (C:=csEqLg) x43 (by kernel_rfl) (by simp[csEqLg]) fun x hx hf=>?_;obtain ⟨(a:List DLeg),(b:List DLeg),_⟩:=x;have hl:a.length≤9223372036854775807:=hf.1.1;by_cases hab:a.length=b.length
 ·have habi:(a.length:Int)=(b.length:Int):=by omega
  dsimp only[entEqLg,x43];simp only[↓hcsEqLg,habi,go_sem];try simp only[habi,td,reduceCtorEq]
  refine XW_for 1000 x43_0d [] Nat (fun j=>[(13,.val Z1 (j:Int))]) (fun _=>[]) (fun j=>j≤a.length∧∀i,i<j→a.getD i (0,0)=b.getD i (0,0)) (fun j=>a.length-j) 0 ?_ ?_ ?_
  ·dsimp only[x43_0d];simp only[go_sem];try trivial
  ·exact ⟨Nat.zero_le _,fun i hi=>by omega⟩
  rintro j ⟨hj,hn⟩;by_cases hja:j<a.length
  ·have hjb:j<b.length:=by omega
   have w2:IntKind.i64.wrap ((j:Int)+1)=((j+1:Nat):Int):=i64_in _ (by omega);have hne:a.getD j (0,0)≠b.getD j (0,0)→decide (a=b)=false:=fun h=>decide_eq_false fun z=>h (by rw[z]);have hnx:a.getD j (0,0)=b.getD j (0,0)→∀i,i<j+1→a.getD i (0,0)=b.getD i (0,0):=fun h i hi=>by
    rcases Nat.lt_or_ge i j with q|q
    ·exact hn i q
    ·rw[show i=j by omega];exact h
   generalize hA:a.getD j (0,0)=u at hne hnx;generalize hB:b.getD j (0,0)=v at hne hnx;obtain ⟨u1,u2⟩:=u;obtain ⟨v1,v2⟩:=v;have huv:((u1,u2)=(v1,v2))↔u1=v1∧u2=v2:=Prod.mk.injEq _ _ _ _▸Iff.rfl;dsimp only[x43_0,x43_0d];simp only[↓hcsEqLg,hja,hjb,w2,hA,hB,habi,go_sem];try simp only[hja,hjb,w2,hA,hB,habi,td,reduceCtorEq]
   exact ⟨fun h=>(hne (fun q=>h (huv.1 q).1 (huv.1 q).2)).symm,fun h=>⟨j+1,by omega,⟨by omega,hnx (huv.2 h)⟩,rfl⟩⟩
  ·have hjb:¬j<b.length:=by omega
   have heq:decide (a=b)=true:=decide_eq_true (ext_getD (0,0) hab fun i hi=>hn i (by omega));dsimp only[x43_0,x43_0d];simp only[↓hcsEqLg,hja,hjb,habi,heq,go_sem];try simp only[hja,hjb,habi,heq,td,reduceCtorEq]
 ·have habi:¬(a.length:Int)=(b.length:Int):=by omega
  have hne:decide (a=b)=false:=decide_eq_false fun z=>hab (by rw[z]);dsimp only[entEqLg,x43];simp only[↓hcsEqLg,hab,habi,hne,go_sem];try simp only[hab,habi,hne,td,reduceCtorEq]
def entSmLg:Ent:=⟨59,.cons Z9 (.cons Z9 .nil),.bool,false,none,fun _=>True,fun x=>decide ((x.1:List DLeg)=x.2.1)⟩
def csSmLg:List Ent:=[] theorem hcsSmLg (f:FuncId):findEnt csSmLg f=findEnt [] f:=rfl
theorem conSmLg:Con Tryz.prog entSmLg:=by
 refine con_is (C:=csSmLg) x59 (by kernel_rfl) (by simp[csSmLg]) fun x hx hf=>?_;obtain ⟨(a:List DLeg),(b:List DLeg),_⟩:=x;have hl:a.length≤9223372036854775807:=hf.1.1;by_cases hab:a.length=b.length
 ·have habi:(a.length:Int)=(b.length:Int):=by omega
  dsimp only[entSmLg,x59];simp only[↓hcsSmLg,habi,go_sem];try simp only[habi,td,reduceCtorEq]
  refine XW_for 1000 x59_0d [] Nat (fun j=>[(5,.val Z1 (j:Int))]) (fun _=>[]) (fun j=>j≤a.length∧∀i,i<j→a.getD i (0,0)=b.getD i (0,0)) (fun j=>a.length-j) 0 ?_ ?_ ?_
  ·dsimp only[x59_0d];simp only[go_sem];try trivial
  ·exact ⟨Nat.zero_le _,fun i hi=>by omega⟩
  rintro j ⟨hj,hn⟩;by_cases hja:j<a.length
  ·have hjb:j<b.length:=by omega
   have w2:IntKind.i64.wrap ((j:Int)+1)=((j+1:Nat):Int):=i64_in _ (by omega);have hne:a.getD j (0,0)≠b.getD j (0,0)→decide (a=b)=false:=fun h=>decide_eq_false fun z=>h (by rw[z]);have hnx:a.getD j (0,0)=b.getD j (0,0)→∀i,i<j+1→a.getD i (0,0)=b.getD i (0,0):=fun h i hi=>by
    rcases Nat.lt_or_ge i j with q|q
    ·exact hn i q
    ·rw[show i=j by omega];exact h
   generalize hA:a.getD j (0,0)=u at hne hnx;generalize hB:b.getD j (0,0)=v at hne hnx;obtain ⟨u1,u2⟩:=u;obtain ⟨v1,v2⟩:=v;have huv:((u1,u2)=(v1,v2))↔u1=v1∧u2=v2:=Prod.mk.injEq _ _ _ _▸Iff.rfl;dsimp only[x59_0,x59_0d];simp only[↓hcsSmLg,hja,hjb,w2,hA,hB,habi,go_sem];try simp only[hja,hjb,w2,hA,hB,habi,td,reduceCtorEq]
   exact ⟨fun h=>(hne (fun q=>h (huv.1 q).1 (huv.1 q).2)).symm,fun h=>⟨j+1,by omega,⟨by omega,hnx (huv.2 h)⟩,rfl⟩⟩
  ·have hjb:¬j<b.length:=by omega
   have heq:decide (a=b)=true:=decide_eq_true (ext_getD (0,0) hab fun i hi=>hn i (by omega));dsimp only[x59_0,x59_0d];simp only[↓hcsSmLg,hja,hjb,habi,heq,go_sem];try simp only[hja,hjb,habi,heq,td,reduceCtorEq]
 ·have habi:¬(a.length:Int)=(b.length:Int):=by omega
  have hne:decide (a=b)=false:=decide_eq_false fun z=>hab (by rw[z]);dsimp only[entSmLg,x59];simp only[↓hcsSmLg,hab,habi,hne,go_sem];try simp only[hab,habi,hne,td,reduceCtorEq]
def entSmSt:Ent:=⟨58,.cons Z15 (.cons Z15 .nil),.bool,false,none,fun _=>True,fun x=>decide ((x.1:List DStop)=x.2.1)⟩
def csSmSt:List Ent:=[] theorem hcsSmSt (f:FuncId):findEnt csSmSt f=findEnt [] f:=rfl
theorem conSmSt:Con Tryz.prog entSmSt:=by
 refine con_is (C:=csSmSt) x58 (by kernel_rfl) (by simp[csSmSt]) fun x hx hf=>?_;obtain ⟨(a:List DStop),(b:List DStop),_⟩:=x;have hl:a.length≤9223372036854775807:=hf.1.1;by_cases hab:a.length=b.length
 ·have habi:(a.length:Int)=(b.length:Int):=by omega
  dsimp only[entSmSt,x58];simp only[↓hcsSmSt,habi,go_sem];try simp only[habi,td,reduceCtorEq]
  refine XW_for 1000 x58_0d [] Nat (fun j=>[(5,.val Z1 (j:Int))]) (fun _=>[]) (fun j=>j≤a.length∧∀i,i<j→a.getD i (0,false)=b.getD i (0,false)) (fun j=>a.length-j) 0 ?_ ?_ ?_
  ·dsimp only[x58_0d];simp only[go_sem];try trivial
  ·exact ⟨Nat.zero_le _,fun i hi=>by omega⟩
  rintro j ⟨hj,hn⟩;by_cases hja:j<a.length
  ·have hjb:j<b.length:=by omega
   have w2:IntKind.i64.wrap ((j:Int)+1)=((j+1:Nat):Int):=i64_in _ (by omega);have hne:a.getD j (0,false)≠b.getD j (0,false)→decide (a=b)=false:=fun h=>decide_eq_false fun z=>h (by rw[z]);have hnx:a.getD j (0,false)=b.getD j (0,false)→∀i,i<j+1→a.getD i (0,false)=b.getD i (0,false):=fun h i hi=>by
    rcases Nat.lt_or_ge i j with q|q
    ·exact hn i q
    ·rw[show i=j by omega];exact h
   generalize hA:a.getD j (0,false)=u at hne hnx;generalize hB:b.getD j (0,false)=v at hne hnx;obtain ⟨u1,u2⟩:=u;obtain ⟨v1,v2⟩:=v;have huv:((u1,u2)=(v1,v2))↔u1=v1∧u2=v2:=Prod.mk.injEq _ _ _ _▸Iff.rfl;dsimp only[x58_0,x58_0d];simp only[↓hcsSmSt,hja,hjb,w2,hA,hB,habi,go_sem];try simp only[hja,hjb,w2,hA,hB,habi,td,reduceCtorEq]
   exact ⟨fun h=>(hne (fun q=>h (huv.1 q).1 (huv.1 q).2)).symm,fun h=>⟨j+1,by omega,⟨by omega,hnx (huv.2 h)⟩,rfl⟩⟩
  ·have hjb:¬j<b.length:=by omega
   have heq:decide (a=b)=true:=decide_eq_true (ext_getD (0,false) hab fun i hi=>hn i (by omega));dsimp only[x58_0,x58_0d];simp only[↓hcsSmSt,hja,hjb,habi,heq,go_sem];try simp only[hja,hjb,habi,heq,td,reduceCtorEq]
 ·have habi:¬(a.length:Int)=(b.length:Int):=by omega
  have hne:decide (a=b)=false:=decide_eq_false fun z=>hab (by rw[z]);dsimp only[entSmSt,x58];simp only[↓hcsSmSt,hab,habi,hne,go_sem];try simp only[hab,habi,hne,td,reduceCtorEq]
end T
end Go.Proofs.YtpocfbfmjippnaaGreat
end
