/- Parts of the proof of the law; no condition. -/
import Derived.Test.YtcnfmabhghhdnaaGreatA38
import Derived.Test.YtcnfmabhghhdnaaGreatA47
import Derived.Test.YtcnfmabhghhdnaaGreatA52
set_option linter.all false
section
namespace Go.Proofs.YtcnfmabhghhdnaaGreat
open Go.RowKit Go.IntWalk
namespace T
def entSMv:Ent:=⟨17,.cons Z27 (.cons Z27 .nil),.bool,false,none,fun _=>True,fun x=>decide ((x.1:List DMove)=x.2.1)⟩
def csSMv:List Ent:=[] theorem hcsSMv (f:FuncId):findEnt csSMv f=findEnt [] f:=rfl
theorem conSMv:Con Tryz.prog entSMv:=by
 refine con_is (C:=csSMv) x17 (by kernel_rfl) (by simp[csSMv]) fun x hx hf=>?_;obtain ⟨(a:List DMove),(b:List DMove),_⟩:=x;have hl:a.length≤9223372036854775807:=hf.1.1;by_cases hab:a.length=b.length
 ·have habi:(a.length:Int)=(b.length:Int):=by omega
  dsimp only[entSMv,x17,Zb,Zg];simp only[↓hcsSMv,habi,go_sem];try simp only[habi,td,reduceCtorEq]
  refine XW_for 1000 x17_0d [] Nat (fun j=>[(5,.val Z1 (j:Int))]) (fun _=>[]) (fun j=>j≤a.length∧∀i,i<j→a.getD i dMove=b.getD i dMove) (fun j=>a.length-j) 0 ?_ ?_ ?_
  ·dsimp only[x17_0d];simp only[go_sem];try trivial
  ·exact ⟨Nat.zero_le _,fun i hi=>by omega⟩
  rintro j ⟨hj,hn⟩;by_cases hja:j<a.length
  ·have hjb:j<b.length:=by omega
   have w2:IntKind.i64.wrap ((j:Int)+1)=((j+1:Nat):Int):=i64_in _ (by omega);have hne:a.getD j dMove≠b.getD j dMove→decide (a=b)=false:=fun h=>decide_eq_false fun z=>h (by rw[z]);have hnx:a.getD j dMove=b.getD j dMove→∀i,i<j+1→a.getD i dMove=b.getD i dMove:=fun h i hi=>by
    rcases Nat.lt_or_ge i j with q|q
    ·exact hn i q
    ·rw[show i=j by omega];exact h
   generalize hA:a.getD j dMove=u at hne hnx;generalize hB:b.getD j dMove=v at hne hnx;obtain ⟨u1,u2,u3,u4,u5⟩:=u;obtain ⟨v1,v2,v3,v4,v5⟩:=v;have huv:((u1,u2,u3,u4,u5)=(v1,v2,v3,v4,v5))↔u1=v1∧u2=v2∧u3=v3∧u4=v4∧u5=v5:=by simp
   dsimp only[x17_0,x17_0d,Z21,Za,Zf,Zg];simp only[↓hcsSMv,hja,hjb,w2,hA,hB,habi,go_sem];try simp only[hja,hjb,w2,hA,hB,habi,td,reduceCtorEq]
   exact ⟨fun h=>(hne (fun q=>h (huv.1 q).1 (huv.1 q).2.1 (huv.1 q).2.2.1 (huv.1 q).2.2.2.1 (huv.1 q).2.2.2.2)).symm,fun h=>⟨j+1,by omega,⟨by omega,hnx (huv.2 h)⟩,rfl⟩⟩
  ·have hjb:¬j<b.length:=by omega
   have heq:decide (a=b)=true:=decide_eq_true (ext_getD dMove hab fun i hi=>hn i (by omega));dsimp only[x17_0,x17_0d,Z21,Za,Zf,Zg];simp only[↓hcsSMv,hja,hjb,habi,heq,go_sem];try simp only[hja,hjb,habi,heq,td,reduceCtorEq]
 ·have habi:¬(a.length:Int)=(b.length:Int):=by omega
  have hne:decide (a=b)=false:=decide_eq_false fun z=>hab (by rw[z]);dsimp only[entSMv,x17,Zb,Zg];simp only[↓hcsSMv,hab,habi,hne,go_sem];try simp only[hab,habi,hne,td,reduceCtorEq]
def entSm23:Ent:=⟨16,.cons Z22 (.cons Z22 .nil),.bool,false,none,fun _=>True,fun x=>decide ((x.1:List DPlan)=x.2.1)⟩
def csSm23:List Ent:=[entSmP] theorem hcsSm23 (f:FuncId):findEnt csSm23 f=findEnt [entSmP] f:=rfl
theorem conSm23:Con Tryz.prog entSm23:=by
 refine con_is (C:=csSm23) x16 (by kernel_rfl) (by simp[csSm23,conSmP]) fun x hx hf=>?_;obtain ⟨(a:List DPlan),(b:List DPlan),_⟩:=x;have hl:a.length≤9223372036854775807:=hf.1.1;by_cases hab:a.length=b.length
 ·have habi:(a.length:Int)=(b.length:Int):=by omega
  dsimp only[entSm23,x16,Zb,Zg];simp only[↓hcsSm23,entSmP,undef,habi,go_sem];try simp only[habi,td,reduceCtorEq]
  refine XW_for 1000 x16_0d [] Nat (fun j=>[(5,.val Z1 (j:Int))]) (fun _=>[]) (fun j=>j≤a.length∧∀i,i<j→a.getD i dPlan=b.getD i dPlan) (fun j=>a.length-j) 0 ?_ ?_ ?_
  ·dsimp only[x16_0d];simp only[go_sem];try trivial
  ·exact ⟨Nat.zero_le _,fun i hi=>by omega⟩
  rintro j ⟨hj,hn⟩;by_cases hja:j<a.length
  ·have hjb:j<b.length:=by omega
   have w2:IntKind.i64.wrap ((j:Int)+1)=((j+1:Nat):Int):=i64_in _ (by omega);have hne:a.getD j dPlan≠b.getD j dPlan→decide (a=b)=false:=fun h=>decide_eq_false fun z=>h (by rw[z]);have hnx:a.getD j dPlan=b.getD j dPlan→∀i,i<j+1→a.getD i dPlan=b.getD i dPlan:=fun h i hi=>by
    rcases Nat.lt_or_ge i j with q|q
    ·exact hn i q
    ·rw[show i=j by omega];exact h
   dsimp only[dPlan] at hne hnx;by_cases he:a.getD j (0,[],[],[])=b.getD j (0,[],[],[])
   ·dsimp only[x16_0,x16_0d,Z13,Za,Zf,Zg];simp only[↓hcsSm23,entSmP,undef,hja,hjb,w2,he,habi,go_sem];try simp only[hja,hjb,w2,he,habi,td,reduceCtorEq]
    exact ⟨j+1,by omega,⟨by omega,hnx he⟩,rfl⟩
   ·have hF:=hne he;dsimp only[x16_0,x16_0d,Z13,Za,Zf,Zg];simp only[↓hcsSm23,entSmP,undef,hja,hjb,w2,he,habi,hF,go_sem];try simp only[hja,hjb,w2,he,habi,hF,td,reduceCtorEq]
  ·have hjb:¬j<b.length:=by omega
   have heq:decide (a=b)=true:=decide_eq_true (ext_getD dPlan hab fun i hi=>hn i (by omega));dsimp only[x16_0,x16_0d,Z13,Za,Zf,Zg];simp only[↓hcsSm23,entSmP,undef,hja,hjb,habi,heq,go_sem];try simp only[hja,hjb,habi,heq,td,reduceCtorEq]
 ·have habi:¬(a.length:Int)=(b.length:Int):=by omega
  have hne:decide (a=b)=false:=decide_eq_false fun z=>hab (by rw[z]);dsimp only[entSm23,x16,Zb,Zg];simp only[↓hcsSm23,entSmP,undef,hab,habi,hne,go_sem];try simp only[hab,habi,hne,td,reduceCtorEq]
def Few23 (w:DWorld) (ps:List DPlan):Prop:=(w.1≤5∧w.2.1.length≤10∧w.2.2.1.length≤3∧w.2.2.2.1.length≤3∧w.2.2.2.2.1.length≤3∧ps.length≤3)∧(∀a∈w.2.1,a.2.2.1.length≤30∧a.2.2.2.length≤30)∧∀p∈ps,p.2.1.length≤6∧p.2.2.1.length≤8∧p.2.2.2.length≤8
instance (w:DWorld) (ps:List DPlan):Decidable (Few23 w ps):=by unfold Few23;infer_instance
def few23 (w:DWorld) (ps:List DPlan):Bool:=decide (Few23 w ps)
theorem few23_iff {w:DWorld} {ps:List DPlan}:few23 w ps=true↔Few23 w ps:=decide_eq_true_iff
def entFw23:Ent:=⟨8,.cons Z24 (.cons Z22 .nil),.bool,false,none,fun _=>True,fun x=>few23 x.1 x.2.1⟩
def csFw23:List Ent:=[] theorem hcsFw23 (f:FuncId):findEnt csFw23 f=findEnt [] f:=rfl
theorem getD_memA {α:Type} {d:α} {l:List α} {i:Nat} (h:i<l.length):l.getD i d∈l:=by simp[List.getD,h]
theorem mem_getD {α:Type} (d:α) {l:List α} {x:α} (h:x∈l):∃i,i<l.length∧l.getD i d=x:=by
 obtain ⟨i,hi,rfl⟩:=List.getElem_of_mem h;exact ⟨i,hi,by simp[List.getD,hi]⟩
theorem conFw23:Con Tryz.prog entFw23:=by
 refine con_is (C:=csFw23) x8 (by kernel_rfl) (by simp[csFw23]) fun x hx hf=>?_;obtain ⟨⟨(N:Int),(A:List DArc),(C:List DCar),(Q:List DReq),(P:List DPair),(S1:Int),(S2:Int),(S3:Int)⟩,(ps:List DPlan),_⟩:=x;dsimp only[entFw23,x8,Z1,Z18,Z20,Z23,Z7,Za,Zb,Zc,Ze,Zg];have hi:=few23_iff (w:=(N,A,C,Q,P,S1,S2,S3)) (ps:=ps);have hN:¬Few23 (N,A,C,Q,P,S1,S2,S3) ps→few23 (N,A,C,Q,P,S1,S2,S3) ps=false:=fun h=>decide_eq_false h;by_cases h0:N≤5∧A.length≤10∧C.length≤3∧Q.length≤3∧P.length≤3∧ps.length≤3
 case neg=>
  have hF:=hN fun q=>h0 q.1;have hc:(decide (N>5)||decide ((A.length:Int)>10)||decide ((C.length:Int)>3)||decide ((Q.length:Int)>3)||decide ((P.length:Int)>3)||decide ((ps.length:Int)>3))=true:=by
   simp only[Bool.or_eq_true,decide_eq_true_eq];omega
  by_cases a1:N>5
  ·simp only[↓hcsFw23,undef,hF,a1,go_sem];try simp only[hF,a1,td,reduceCtorEq]
  by_cases a2:(A.length:Int)>10
  ·simp only[↓hcsFw23,undef,hF,a1,a2,go_sem];try simp only[hF,a1,a2,td,reduceCtorEq]
  by_cases a3:(C.length:Int)>3
  ·simp only[↓hcsFw23,undef,hF,a1,a2,a3,go_sem];try simp only[hF,a1,a2,a3,td,reduceCtorEq]
  by_cases a4:(Q.length:Int)>3
  ·simp only[↓hcsFw23,undef,hF,a1,a2,a3,a4,go_sem];try simp only[hF,a1,a2,a3,a4,td,reduceCtorEq]
  by_cases a5:(P.length:Int)>3
  ·simp only[↓hcsFw23,undef,hF,a1,a2,a3,a4,a5,go_sem];try simp only[hF,a1,a2,a3,a4,a5,td,reduceCtorEq]
  have a6:(ps.length:Int)>3:=by omega
  simp only[↓hcsFw23,undef,hF,a1,a2,a3,a4,a5,a6,go_sem];try simp only[hF,a1,a2,a3,a4,a5,a6,td,reduceCtorEq]
 have a1:¬N>5:=by omega
 have a2:¬(A.length:Int)>10:=by omega
 have a3:¬(C.length:Int)>3:=by omega
 have a4:¬(Q.length:Int)>3:=by omega
 have a5:¬(P.length:Int)>3:=by omega
 have a6:¬(ps.length:Int)>3:=by omega
 simp only[↓hcsFw23,undef,a1,a2,a3,a4,a5,a6,go_sem];try simp only[a1,a2,a3,a4,a5,a6,td,reduceCtorEq]
 refine XW_for 1000 x8_0d [0] Nat (fun j=>[(5,.val Z1 (j:Int))]) (fun _=>[]) (fun j=>j≤A.length∧∀i,i<j→(A.getD i (0,0,[],[])).2.2.1.length≤30∧(A.getD i (0,0,[],[])).2.2.2.length≤30) (fun j=>A.length-j) 0 ?_ ?_ ?_
 ·dsimp only[x8_0d];simp only[go_sem];try trivial
 ·exact ⟨Nat.zero_le _,fun i hi=>by omega⟩
 rintro j ⟨hj,hn⟩;dsimp only[x8_0,x8_0d,Z10,Z15,Z18,Za,Zb,Zc,Zd,Ze,Zg];by_cases hj':j<A.length
 ·have w2:IntKind.i64.wrap ((j:Int)+1)=((j+1:Nat):Int):=i64_in _ (by omega);by_cases c1:((A.getD j (0,0,[],[])).2.2.1.length:Int)>30
  ·have hF:=hN fun q=>by have:=(q.2.1 _ (getD_memA (d:=(0,0,[],[])) hj')).1;dsimp only at this;omega
   simp only[↓hcsFw23,undef,hj',w2,c1,hF,go_sem];try simp only[hj',w2,c1,hF,td,reduceCtorEq]
  by_cases c2:((A.getD j (0,0,[],[])).2.2.2.length:Int)>30
  ·have hF:=hN fun q=>by have:=(q.2.1 _ (getD_memA (d:=(0,0,[],[])) hj')).2;dsimp only at this;omega
   simp only[↓hcsFw23,undef,hj',w2,c1,c2,hF,go_sem];try simp only[hj',w2,c1,c2,hF,td,reduceCtorEq]
  simp only[↓hcsFw23,undef,hj',w2,c1,c2,go_sem];try simp only[hj',w2,c1,c2,td,reduceCtorEq]
  refine ⟨j+1,by omega,⟨by omega,fun i hi=>?_⟩,rfl⟩;rcases Nat.lt_or_ge i j with q|q
  ·exact hn i q
  ·rw[show i=j by omega];exact ⟨by omega,by omega⟩
 obtain rfl:j=A.length:=by omega
 simp only[↓hcsFw23,undef,hj',go_sem];try simp only[hj',td,reduceCtorEq]
 refine XW_for 2000 x8_1d [0] Nat (fun j=>[(6,.val Z1 (j:Int))]) (fun _=>[]) (fun j=>j≤ps.length∧∀i,i<j→(ps.getD i dPlan).2.1.length≤6∧(ps.getD i dPlan).2.2.1.length≤8∧(ps.getD i dPlan).2.2.2.length≤8) (fun j=>ps.length-j) 0 ?_ ?_ ?_
 ·dsimp only[x8_1d];simp only[go_sem];try trivial
 ·exact ⟨Nat.zero_le _,fun i hi=>by omega⟩
 rintro j ⟨hj,hm⟩;dsimp only[x8_1,x8_1d,Z10,Z12,Z13,Z3,Za,Zb,Zc,Ze,Zg];by_cases hj':j<ps.length
 ·have w2:IntKind.i64.wrap ((j:Int)+1)=((j+1:Nat):Int):=i64_in _ (by omega);have hnx:(ps.getD j dPlan).2.1.length≤6∧(ps.getD j dPlan).2.2.1.length≤8∧(ps.getD j dPlan).2.2.2.length≤8→∀i,i<j+1→(ps.getD i dPlan).2.1.length≤6∧(ps.getD i dPlan).2.2.1.length≤8∧(ps.getD i dPlan).2.2.2.length≤8:=fun h i hi=>by
   rcases Nat.lt_or_ge i j with q|q
   ·exact hm i q
   ·rw[show i=j by omega];exact h
  dsimp only[dPlan] at hnx;by_cases c1:((ps.getD j (0,[],[],[])).2.1.length:Int)>6
  ·have hF:=hN fun q=>by have:=(q.2.2 _ (getD_memA (d:=(0,[],[],[])) hj')).1;omega
   simp only[↓hcsFw23,undef,hj',w2,c1,hF,go_sem];try simp only[hj',w2,c1,hF,td,reduceCtorEq]
  by_cases c2:((ps.getD j (0,[],[],[])).2.2.1.length:Int)>8
  ·have hF:=hN fun q=>by have:=(q.2.2 _ (getD_memA (d:=(0,[],[],[])) hj')).2.1;omega
   simp only[↓hcsFw23,undef,hj',w2,c1,c2,hF,go_sem];try simp only[hj',w2,c1,c2,hF,td,reduceCtorEq]
  by_cases c3:((ps.getD j (0,[],[],[])).2.2.2.length:Int)>8
  ·have hF:=hN fun q=>by have:=(q.2.2 _ (getD_memA (d:=(0,[],[],[])) hj')).2.2;omega
   simp only[↓hcsFw23,undef,hj',w2,c1,c2,c3,hF,go_sem];try simp only[hj',w2,c1,c2,c3,hF,td,reduceCtorEq]
  simp only[↓hcsFw23,undef,hj',w2,c1,c2,c3,go_sem];try simp only[hj',w2,c1,c2,c3,td,reduceCtorEq]
  exact ⟨j+1,by omega,⟨by omega,hnx ⟨by omega,by omega,by omega⟩⟩,rfl⟩
 ·obtain rfl:j=ps.length:=by omega
  have hY:few23 (N,A,C,Q,P,S1,S2,S3) ps=true:=by
   refine hi.2 ⟨h0,fun a ha=>?_,fun p hp=>?_⟩
   ·obtain ⟨i,hi',rfl⟩:=mem_getD (0,0,[],[]) ha;exact hn i hi'
   ·obtain ⟨i,hi',rfl⟩:=mem_getD dPlan hp;exact hm i hi'
  simp only[↓hcsFw23,undef,hj',hY,go_sem];try simp only[hj',hY,td,reduceCtorEq]
def entTen:Ent:=⟨47,.nil,Z10,false,none,fun _=>True,fun _=>List.replicate 24 (10:Int)⟩
def csTen:List Ent:=[] theorem hcsTen (f:FuncId):findEnt csTen f=findEnt [] f:=rfl
theorem rep_snoc23 (k:Nat) (x:Int):List.replicate k x++[x]=List.replicate (k+1) x:=by rw[List.replicate_succ']
theorem conTen:Con Tryz.prog entTen:=by
 refine con_is (C:=csTen) x47 (by kernel_rfl) (by simp[csTen]) fun x hx hf=>?_;obtain ⟨⟩:=x;obtain ⟨L24,hL⟩:∃L,List.replicate 24 (10:Int)=L:=⟨_,rfl⟩;dsimp only[entTen,x47,Z1,Zb,Zg];rw[hL];simp only[↓hcsTen,undef,go_sem];try simp only[td,reduceCtorEq]
 obtain ⟨R,hR⟩:∃R:Nat→List Int,∀k,R k=List.replicate k (10:Int):=⟨_,fun k=>rfl⟩;refine XW_for 1000 x47_0d [] Nat (fun k=>[(2,.val Z1 (k:Int)),(1,.own 1)]) (fun k=>[(1,.row 3 (.int .i64) (R k))]) (fun k=>k≤24) (fun k=>24-k) 0 ?_ ?_ ?_
 ·dsimp only[x47_0d];simp only[hR 0,List.replicate_zero,go_sem];try trivial
 ·exact Nat.zero_le _
 intro k hk;dsimp only[x47_0,x47_0d,Z1,Za,Zb,Zg];by_cases hk':k<24
 ·have hki:(k:Int)<24:=by omega
  have w2:IntKind.i64.wrap ((k:Int)+1)=((k+1:Nat):Int):=i64_in _ (by omega);have hb:((R k).length+1)*8≤140737488355328:=by rw[hR,List.length_replicate];omega
  have hs:R k++[10]=R (k+1):=by rw[hR,hR,rep_snoc23]
  simp only[↓hcsTen,undef,hki,hk',w2,hb,go_sem];try simp only[hki,hk',w2,hb,td,reduceCtorEq]
  exact ⟨k+1,by omega,by omega,rfl,hs⟩
 ·obtain rfl:k=24:=by omega
  have hki:¬((24:Nat):Int)<24:=by omega
  rw[←hL,←hR];simp only[↓hcsTen,undef,hki,hk',go_sem];try simp only[hki,hk',td,reduceCtorEq]
def entWld:Ent:=⟨9,.cons Z24 .nil,Z24,false,none,fun _=>True,fun x=>x.1⟩
def csWld:List Ent:=[] theorem hcsWld (f:FuncId):findEnt csWld f=findEnt [] f:=rfl
theorem conWld:Con Tryz.prog entWld:=by
 refine con_is (C:=csWld) x9 (by kernel_rfl) (by simp[csWld]) fun x hx hf=>?_;obtain ⟨⟨(N:Int),(A:List DArc),(C:List DCar),(Q:List DReq),(P:List DPair),(S1:Int),(S2:Int),(S3:Int)⟩,_⟩:=x;dsimp only[entWld,x9,Z1,Z18,Z20,Z23,Z24,Z5,Z7,Zb,Zd,Zg];simp only[↓hcsWld,undef,go_sem];try simp only[td,reduceCtorEq]
end T
end Go.Proofs.YtcnfmabhghhdnaaGreat
end
