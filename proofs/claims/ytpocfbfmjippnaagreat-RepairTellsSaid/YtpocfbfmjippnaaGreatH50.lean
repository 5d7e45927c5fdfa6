/- Parts of the proof of the law; no condition. -/
import Derived.Test.YtpocfbfmjippnaaGreatH49
import Derived.Test.YtpocfbfmjippnaaGreatH53
import Derived.Test.YtpocfbfmjippnaaGreatH55
set_option linter.all false
section
namespace Go.Proofs.YtpocfbfmjippnaaGreat
open Go.RowKit Go.IntWalk
namespace T
set_option pp.deepTerms true
set_option pp.maxSteps 1000000
def entB0:Ent:={ entB38 with pre:=fun x=>entBsX.pre x∧List.length (α:=Int) x.2.2.2.1=0 }
set_option maxHeartbeats 4000000 in
theorem conB0:Con Tryz.prog entB0:=by
 refine con_is (C:=csB38) z11 (by kernel_rfl) (by simp[csB38,conRr38,conHlR,conPy8,conEnS,conLsR,conFst,conBg8]) fun x hx hf=>?_;obtain ⟨⟨(N:Int),(A:List DArc),(C:List DCar),(Q:List DReq),(P:List DPair),(S1:Int),(S2:Int),(S3:Int)⟩,(ps:List DPlan),(b:Int),(o:List Int),_⟩:=x;obtain ⟨⟨⟨⟨hl,ho1⟩,ho⟩,hx⟩,hz⟩:(((ps.length≤1000∧o.length≤1000)∧(o.length≤2∨4<o.length))∧∀p∈ps,p.2.1.length≤16)∧o.length=0:=hx;obtain rfl:=List.eq_nil_of_length_eq_zero hz;have h1:∀p∈ps,p.2.1.length≤24:=fun p hp=>by have:=hx p hp;omega
 dsimp only[entB0,entB38,entBsX,z11,z22,Z1,Z21,Z22,Z24,Za,Zb,Zc,Ze];have g4':¬((0:Nat):Int)>4:=by decide
 have l0:(0:Nat)≤1000:=by decide
 have l2:(0:Nat)≤2:=by decide
 cases hrr:rightR38 (N,A,C,Q,P,S1,S2,S3) ps b [] with
 |false=>
  have hF:=best_bad hrr;simp only[↓hcsB38,entRr38,entHlR,entPy8,entEnS,entLsR,entFst,entBg8,undef,hrr,h1,hl,l0,hF,go_sem];try simp only[hrr,h1,hl,l0,hF,td,reduceCtorEq]
  all_goals first|done|exact h1
 |true=>
 by_cases g3:3<(helpF ps b).length
 ·have hF:=best_full hrr (.inr g3);have g3':((helpF ps b).length:Int)>3:=by omega
  simp only[↓hcsB38,entRr38,entHlR,entPy8,entEnS,entLsR,entFst,entBg8,undef,hrr,h1,hl,l0,g4',g3',hF,go_sem];try simp only[hrr,h1,hl,l0,g4',g3',hF,td,reduceCtorEq]
  all_goals first|done|exact h1
 have g3':¬((helpF ps b).length:Int)>3:=by omega
 obtain ⟨x,F,hS,hF⟩:=best_ok hrr (fun z=>z.elim (by decide) g3);have hHx:∀p∈helpF ps b,p.2.1.length≤16:=fun p hp=>hx p (mem_helpF.1 hp).1;obtain ⟨hs,hH⟩:∃hs,helpF ps b=hs:=⟨_,rfl⟩;rw[hH] at g3 g3' hHx hS;obtain ⟨n,hn⟩:∃n,endsR (N,A,C,Q,P,S1,S2,S3) hs=n:=⟨_,rfl⟩;have hP:playR (N,A,C,Q,P,S1,S2,S3) hs [] [] 0=(hs,-1):=by rw[playR];intro q o' t to' h;cases h
 have hS':scanR (N,A,C,Q,P,S1,S2,S3) hs []=(some ([],hs,n),[]):=by
  show stepR (N,A,C,Q,P,S1,S2,S3) hs [] (none,[]) []=_;unfold stepR;rw[hP,hn];rfl
 rw[hS'] at hS;obtain ⟨e1,rfl⟩:=Prod.mk.inj hS;obtain rfl:=Option.some.inj e1;simp only[↓hcsB38,entRr38,entHlR,entPy8,entEnS,entLsR,entFst,entBg8,undef,hrr,h1,hl,l0,g4',g3',hH,go_sem];try simp only[hrr,h1,hl,l0,g4',g3',hH,td,reduceCtorEq]
 refine ⟨h1,?_⟩;have n00:¬(0:Int)<0:=by decide
 have n0n:¬(0:Int)<((0:Nat):Int):=by decide
 have n000:¬((0:Nat):Int)<((0:Nat):Int):=by decide
 refine XW_for 1000 z22_0d [0,1,2,3,26,31] Nat (fun _=>[(6,.val Z1 0),(5,.nnl)]) (fun _=>[]) (fun _=>True) (fun _=>0) 0 ?_ trivial ?_
 ·dsimp only[z22_0d];simp only[go_sem];first|done|exact ⟨rfl,rfl⟩|rfl
 intro _ _;dsimp only[z22_0,z22_0d];simp only[↓hcsB38,entRr38,entHlR,entPy8,entEnS,entLsR,entFst,entBg8,undef,n00,n0n,n000,go_sem];try simp only[n00,n0n,n000,td,reduceCtorEq]
 have hs1:hs.length≤1000:=by omega
 have na:¬(-1:Int)≥0:=by decide
 have w01:IntKind.i64.wrap (((0:Nat):Int)-1)= -1:=by decide
 have hb8:(0+0)*8≤140737488355328:=by decide
 have hnm:∀t:Int,¬t∈([]:List Int):=fun t h=>by cases h
 have hF':bestR (N,A,C,Q,P,S1,S2,S3) ps b []=(hs,[],[],0):=hF;refine XW_first 2000 z11_0d [0,1,2,3] Nat (fun _=>[(17,.cst (.slice none 0 0)),(13,.top),(14,.val Z23 hs),(15,.top),(16,.own 100)]) (fun _=>[(100,.row 74 Z24 [])]) (fun _=>True) (fun _=>0) 1 ?_ ?_
 ·dsimp only[z11_0,z11_0d,z23,Z1,Z21,Z24,Z5,Za,Zb,Zc,Ze,Zf];simp only[↓hcsB38,entRr38,entHlR,entPy8,entEnS,entLsR,entFst,entBg8,undef,hP,hn,hs1,l0,l2,na,w01,hb8,hnm,List.length_nil,go_sem];try simp only[hP,hn,hs1,l0,l2,na,w01,hb8,hnm,List.length_nil,td,reduceCtorEq]
  refine ⟨hHx,?_⟩;have nm:¬(-1:Int)≥0:=by decide
  refine XW_for 3000 z23_0d [0,1,2,3,26] Nat (fun _=>[(6,.val Z1 (-1))]) (fun _=>[]) (fun _=>True) (fun _=>0) 0 ?_ trivial ?_
  ·dsimp only[z23_0d];simp only[go_sem];first|done|exact ⟨rfl,rfl⟩|rfl
  intro _ _;dsimp only[z23_0,z23_0d];simp only[↓hcsB38,entRr38,entHlR,entPy8,entEnS,entLsR,entFst,entBg8,undef,nm,go_sem];try simp only[nm,td,reduceCtorEq]
  exact ⟨0,by decide⟩
 intro _ _;dsimp only[z11_0,z11_0d,Z1,Z21,Z24,Z5,Za,Zb,Zc,Ze,Zf];simp only[↓hcsB38,entRr38,entHlR,entPy8,entEnS,entLsR,entFst,entBg8,undef,go_sem];try simp only[td,reduceCtorEq]
 refine XW_for 3000 z11_1d [0,1,2,3,100] Nat (fun _=>[(24,.val Z1 0),(23,.own 1800)]) (fun _=>[(1800,.row 3 (.int .i64) [])]) (fun _=>True) (fun _=>0) 0 ?_ trivial ?_
 ·dsimp only[z11_1d];simp only[go_sem];first|done|exact ⟨rfl,rfl⟩|rfl
 intro _ _;dsimp only[z11_1,z11_1d];simp only[↓hcsB38,entRr38,entHlR,entPy8,entEnS,entLsR,entFst,entBg8,undef,n00,n0n,n000,List.length_nil,go_sem];try simp only[n00,n0n,n000,List.length_nil,td,reduceCtorEq]
 refine XW_for 3000 z11_2d [0,1,2,3,100,1800] Nat (fun _=>[(26,.val Z1 0),(25,.own 1801)]) (fun _=>[(1801,.row 74 Z24 [])]) (fun _=>True) (fun _=>0) 0 ?_ trivial ?_
 ·dsimp only[z11_2d];simp only[go_sem];first|done|exact ⟨rfl,rfl⟩|rfl
 intro _ _;dsimp only[z11_2,z11_2d];simp only[↓hcsB38,entRr38,entHlR,entPy8,entEnS,entLsR,entFst,entBg8,undef,n00,n0n,n000,hF',List.length_nil,go_sem];try simp only[n00,n0n,n000,hF',List.length_nil,td,reduceCtorEq]
theorem conB38:Con Tryz.prog entB38:=by
 refine Con.to ⟨(conB0.is rfl).1,fun x hx=>?_⟩ rfl;rcases Nat.eq_zero_or_pos (List.length (α:=Int) x.2.2.2.1) with h|h
 ·exact (conB0.is rfl).2 x ⟨hx,h⟩
 ·exact (conB1.is rfl).2 x ⟨hx,h⟩
set_option pp.deepTerms true
set_option pp.maxSteps 1000000
def entOf38:Ent:=⟨10,.cons Z21 .nil,Z21,false,none,fun _=>True,fun x=>x.1⟩
def csOf38:List Ent:=[] theorem hcsOf38 (f:FuncId):findEnt csOf38 f=findEnt [] f:=rfl
theorem conOf38:Con Tryz.prog entOf38:=by
 refine con_is (C:=csOf38) x10 (by kernel_rfl) (by simp[csOf38]) fun x hx hf=>?_;obtain ⟨⟨(N:Int),(A:List DArc),(C:List DCar),(Q:List DReq),(P:List DPair),(S1:Int),(S2:Int),(S3:Int)⟩,_⟩:=x;dsimp only[entOf38,x10];simp only[↓hcsOf38,undef,go_sem];try simp only[td,reduceCtorEq]
def entCas38:Ent:=⟨17,.cons Z25 .nil,.sl Z24,false,none,fun x=>List.length (α:=DCase) x.1≤1000000,fun x=>x.1⟩
def csCas38:List Ent:=[] theorem hcsCas38 (f:FuncId):findEnt csCas38 f=findEnt [] f:=rfl
theorem conCas38:Con Tryz.prog entCas38:=by
 refine con_is (C:=csCas38) x17 (by kernel_rfl) (by simp[csCas38]) fun x hx hf=>?_;obtain ⟨(ps:List DCase),_⟩:=x;have hl:ps.length≤1000000:=hx;dsimp only[entCas38,x17];simp only[↓hcsCas38,undef,go_sem];try simp only[td,reduceCtorEq]
 refine XW_for 1000 x17_0d [] Nat (fun j=>[(4,.val Z1 (j:Int)),(3,.own 1)]) (fun j=>[(1,.row 60 Z24 (ps.take j))]) (fun j=>j≤ps.length) (fun j=>ps.length-j) 0 ?_ ?_ ?_
 ·dsimp only[x17_0d];simp only[go_sem];first|done|exact ⟨rfl,rfl⟩|rfl
 ·exact Nat.zero_le _
 intro j hj;dsimp only[x17_0,x17_0d];by_cases hj':j<ps.length
 case neg=>
  obtain rfl:j=ps.length:=by omega
  rw[List.take_length];simp only[↓hcsCas38,undef,hj',go_sem];try simp only[hj',td,reduceCtorEq]
 have w1:IntKind.i64.wrap ((j:Int)+1)=((j+1:Nat):Int):=i64_in _ (by omega);have hB:((ps.take j).length+1)*32≤140737488355328:=by rw[List.length_take];omega
 have ht:=take_nx (d:=dCase) hj';obtain ⟨⟨c,a⟩,hP⟩:∃p:DCase,ps.getD j ([],0)=p:=⟨_,rfl⟩;dsimp only[dCase] at ht;rw[hP] at ht;simp only[↓hcsCas38,undef,hj',w1,hP,hB,go_sem];try simp only[hj',w1,hP,hB,td,reduceCtorEq]
 exact ⟨j+1,by omega,by omega,rfl,ht.symm⟩
def entBck38:Ent:=⟨15,.cons Z25 .nil,.sl Z24,false,none,fun x=>List.length (α:=DCase) x.1≤1000000,fun x=>x.1⟩
def csBck38:List Ent:=[] theorem hcsBck38 (f:FuncId):findEnt csBck38 f=findEnt [] f:=rfl
theorem conBck38:Con Tryz.prog entBck38:=by
 refine con_is (C:=csBck38) x15 (by kernel_rfl) (by simp[csBck38]) fun x hx hf=>?_;obtain ⟨(ps:List DCase),_⟩:=x;have hl:ps.length≤1000000:=hx;dsimp only[entBck38,x15];simp only[↓hcsBck38,undef,go_sem];try simp only[td,reduceCtorEq]
 refine XW_for 1000 x15_0d [] Nat (fun j=>[(4,.val Z1 (j:Int)),(3,.own 1)]) (fun j=>[(1,.row 74 Z24 (ps.take j))]) (fun j=>j≤ps.length) (fun j=>ps.length-j) 0 ?_ ?_ ?_
 ·dsimp only[x15_0d];simp only[go_sem];first|done|exact ⟨rfl,rfl⟩|rfl
 ·exact Nat.zero_le _
 intro j hj;dsimp only[x15_0,x15_0d];by_cases hj':j<ps.length
 case neg=>
  obtain rfl:j=ps.length:=by omega
  rw[List.take_length];simp only[↓hcsBck38,undef,hj',go_sem];try simp only[hj',td,reduceCtorEq]
 have w1:IntKind.i64.wrap ((j:Int)+1)=((j+1:Nat):Int):=i64_in _ (by omega);have hB:((ps.take j).length+1)*32≤140737488355328:=by rw[List.length_take];omega
 have ht:=take_nx (d:=dCase) hj';obtain ⟨⟨c,a⟩,hP⟩:∃p:DCase,ps.getD j ([],0)=p:=⟨_,rfl⟩;dsimp only[dCase] at ht;rw[hP] at ht;simp only[↓hcsBck38,undef,hj',w1,hP,hB,go_sem];try simp only[hj',w1,hP,hB,td,reduceCtorEq]
 exact ⟨j+1,by omega,by omega,rfl,ht.symm⟩
def entTl8:Ent:=⟨3,.cons Z21 (.cons Z23 (.cons Z1 (.cons Z5 (.cons Z23 (.cons Z5 (.cons Z25 .nil)))))),.bool,false,none,fun _=>True,fun _=>true⟩
def csTl8:List Ent:=[entSml8,entFew8,entOf38,entBsX,entB38,entRsP,entRsI,entBck38,entRsC,entCh8,entCas38,entC38] theorem hcsTl8 (f:FuncId):findEnt csTl8 f=findEnt [entSml8,entFew8,entOf38,entBsX,entB38,entRsP,entRsI,entBck38,entRsC,entCh8,entCas38,entC38] f:=rfl
theorem conTl8 (hB:Con Tryz.prog entBsX):Con Tryz.prog entTl8:=by
 refine con_is (C:=csTl8) x3 (by kernel_rfl) (by simp[csTl8,conSml8 hB,conFew8,conOf38,hB,conB38,conRsP,conRsI,conBck38,conRsC,conCh8 hB,conCas38,conC38 conB38]) fun x _ hf=>?_;obtain ⟨⟨(N:Int),(A:List DArc),(C:List DCar),(Q:List DReq),(P:List DPair),(S1:Int),(S2:Int),(S3:Int)⟩,(ps:List DPlan),(b:Int),(o:List Int),(af:List DPlan),(lo:List Int),(pr:List DCase),_⟩:=x;dsimp only[entTl8,x3];cases h0:few8 (N,A,C,Q,P,S1,S2,S3) ps o pr
 ·simp only[↓hcsTl8,entSml8,entFew8,entOf38,entBsX,entB38,entRsP,entRsI,entBck38,entRsC,entCh8,entCas38,entC38,undef,h0,go_sem];try simp only[h0,td,reduceCtorEq]
 cases h1:few8 (N,A,C,Q,P,S1,S2,S3) af [] []
 ·simp only[↓hcsTl8,entSml8,entFew8,entOf38,entBsX,entB38,entRsP,entRsI,entBck38,entRsC,entCh8,entCas38,entC38,undef,h0,h1,go_sem];try simp only[h0,h1,td,reduceCtorEq]
 by_cases h2:(lo.length:Int)>8
 ·simp only[↓hcsTl8,entSml8,entFew8,entOf38,entBsX,entB38,entRsP,entRsI,entBck38,entRsC,entCh8,entCas38,entC38,undef,h0,h1,h2,go_sem];try simp only[h0,h1,h2,td,reduceCtorEq]
 obtain ⟨⟨_,f1,f2,f3,f4⟩,f5,_⟩:FewR8 (N,A,C,Q,P,S1,S2,S3) ps o pr:=of_decide_eq_true h0;have p1:ps.length≤1000:=by omega
 have p2:o.length≤1000:=by omega
 have p5:∀p∈ps,p.2.1.length≤4:=fun p hp=>by
  obtain ⟨i,hi,rfl⟩:=mem_at dPln hp;exact (f5 i hi).1
 have p4:∀p∈ps,p.2.1.length≤16:=fun p hp=>Nat.le_trans (p5 p hp) (by decide);have p6:pr.length≤1000000:=by omega
 obtain ⟨⟨a1,a2,a3,a4⟩,hR⟩:∃r,bestR (N,A,C,Q,P,S1,S2,S3) ps b o=r:=⟨_,rfl⟩;have p7:a3.length≤1000000:=by
  rcases best_cases (w:=(N,A,C,Q,P,S1,S2,S3)) (b:=b) (o:=o) p5 with h|⟨h4,x,F,h⟩
  ·have:a3=[]:=by rcases h with h|h<;> · rw[hR] at h;exact congrArg (fun r=>r.2.2.1) h
   rw[this];exact Nat.zero_le _
  ·have e:=h.is;rw[hR] at e;have e:a3=keepR x.1 F:=congrArg (fun r=>r.2.2.1) e;rw[e];exact Nat.le_trans (h.proof_len (by omega)) (by decide)
 obtain ⟨ck,hC⟩:∃c,chkR (N,A,C,Q,P,S1,S2,S3) ps b o af lo pr=c:=⟨_,rfl⟩;simp only[↓hcsTl8,entSml8,entFew8,entOf38,entBsX,entB38,entRsP,entRsI,entBck38,entRsC,entCh8,entCas38,entC38,undef,h0,h1,h2,p1,p2,f2,p4,p6,p7,hR,hC,go_sem];try simp only[h0,h1,h2,p1,p2,f2,p4,p6,p7,hR,hC,td,reduceCtorEq]
 all_goals (repeat' apply And.intro)<;>first|exact p4|rfl
theorem conBsX:Con Tryz.prog entBsX:=by
 refine Con.to ⟨(conBs0.is rfl).1,fun x hx=>?_⟩ rfl;obtain ⟨⟨⟨h1,h2⟩,h3⟩,h4⟩:((List.length (α:=DPlan) x.2.1≤1000∧List.length (α:=Int) x.2.2.2.1≤1000)∧(List.length (α:=Int) x.2.2.2.1≤2∨4<List.length (α:=Int) x.2.2.2.1))∧∀p∈(x.2.1:List DPlan),p.2.1.length≤16:=hx;by_cases c0:List.length (α:=Int) x.2.2.2.1=0
 ·exact (conBs0.is rfl).2 x ⟨⟨h1,.inl c0⟩,h4⟩
 by_cases c1:List.length (α:=Int) x.2.2.2.1=1
 ·exact (conBs1.is rfl).2 x ⟨⟨h1,c1⟩,h4⟩
 by_cases c2:List.length (α:=Int) x.2.2.2.1=2
 ·exact (conBs2.is rfl).2 x ⟨⟨h1,c2⟩,h4⟩
 exact (conBs0.is rfl).2 x ⟨⟨h1,.inr ⟨by omega,h2⟩⟩,h4⟩
theorem conTl8':Con Tryz.prog entTl8:=conTl8 conBsX
end T
end Go.Proofs.YtpocfbfmjippnaaGreat
end
