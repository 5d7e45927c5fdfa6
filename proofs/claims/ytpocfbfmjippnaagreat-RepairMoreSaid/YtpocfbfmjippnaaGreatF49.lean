/- Parts of the proof of the law; no condition. -/
import Derived.Test.YtpocfbfmjippnaaGreatF45
import Derived.Test.YtpocfbfmjippnaaGreatF47
import Derived.Test.YtpocfbfmjippnaaGreatF48
import Derived.Test.YtpocfbfmjippnaaGreatF51
import Derived.Test.YtpocfbfmjippnaaGreatF53
import Derived.Test.YtpocfbfmjippnaaGreatF55
set_option linter.all false
section
namespace Go.Proofs.YtpocfbfmjippnaaGreat
open Go.RowKit Go.IntWalk
namespace T
set_option pp.deepTerms true
set_option pp.maxSteps 1000000
def entSml8:Ent:=⟨7,.nil,.bool,false,none,fun _=>True,fun _=>true⟩
def hCt (W:DWorld):Ent:={ entCty with F:=fun _=>W }
def hMk (mk:DWorld→Int→List DStop→DPlan×Int):Ent:={ entMk with F:=fun x=>((mk x.1 x.2.1 x.2.2.1).1,(mk x.1 x.2.1 x.2.2.1).2,()) }
def hBe (be:DWorld→List DPlan→Int→List Int→List DPlan×List Int×List DCase×Int):Ent:={ entBsX with F:=fun x=>((be x.1 x.2.1 x.2.2.1 x.2.2.2.1).1,(be x.1 x.2.1 x.2.2.1 x.2.2.2.1).2.1,(be x.1 x.2.1 x.2.2.1 x.2.2.2.1).2.2.1,(be x.1 x.2.1 x.2.2.1 x.2.2.2.1).2.2.2,()) }
def hCk (ck:DWorld→List DPlan→Int→List Int→List DPlan→List Int→List DCase→Int):Ent:={ entCh8 with F:=fun x=>ck x.1 x.2.1 x.2.2.1 x.2.2.2.1 x.2.2.2.2.1 x.2.2.2.2.2.1 x.2.2.2.2.2.2.1 }
def csSml8 (W:DWorld) (mk:DWorld→Int→List DStop→DPlan×Int) (be:DWorld→List DPlan→Int→List Int→List DPlan×List Int×List DCase×Int) (ck:DWorld→List DPlan→Int→List Int→List DPlan→List Int→List DCase→Int):List Ent:=[hCt W,hMk mk,hBe be,hCk ck,entSmP,entRsI]
theorem hcsSml8 (W:DWorld) (mk:DWorld→Int→List DStop→DPlan×Int) (be:DWorld→List DPlan→Int→List Int→List DPlan×List Int×List DCase×Int) (ck:DWorld→List DPlan→Int→List Int→List DPlan→List Int→List DCase→Int) (f:FuncId):findEnt (csSml8 W mk be ck) f=findEnt [hCt W,hMk mk,hBe be,hCk ck,entSmP,entRsI] f:=rfl
set_option maxHeartbeats 8000000 in
set_option maxRecDepth 20000 in
theorem small8_gen {W:DWorld} {mk:DWorld→Int→List DStop→DPlan×Int} {be:DWorld→List DPlan→Int→List Int→List DPlan×List Int×List DCase×Int} {ck:DWorld→List DPlan→Int→List Int→List DPlan→List Int→List DCase→Int} (c1:Con Tryz.prog (hCt W)) (c2:Con Tryz.prog (hMk mk)) (c3:Con Tryz.prog (hBe be)) (c4:Con Tryz.prog (hCk ck)) {A B C X:DPlan}
  (a1:mk W 0 [(0,true),(0,false)]=(A,0)) (a2:mk W 1 [(2,true),(2,false)]=(B,0)) (a3:mk W 2 []=(C,0)) (a4:be W [A,B,C] 0 [0]=([B,X],[],[],0)) (a5:be W [A,B] 0 [0]=([B],[0],[([0],0)],0)) (a6:ck W [A,B] 0 [0] [B] [0] [([0],0)]=0)
  (x1:X.1=2) (x2:X.2.1.length=2) (p3:∀p∈[A,B,C],p.2.1.length≤16) (p2:∀p∈[A,B],p.2.1.length≤16):Con Tryz.prog entSml8:=by
 have l1:([(0,true),(0,false)]:List DStop).length≤24:=Nat.le_of_ble_eq_true rfl
 have l2:([(2,true),(2,false)]:List DStop).length≤24:=Nat.le_of_ble_eq_true rfl
 have l0:([]:List DStop).length≤24:=Nat.le_of_ble_eq_true rfl
 obtain ⟨P3,e3⟩:∃s,[A,B,C]=s:=⟨_,rfl⟩
 have l3:P3.length≤1000:=by rw[←e3];exact Nat.le_of_ble_eq_true rfl
 obtain ⟨P2,e4⟩:∃s,[A,B]=s:=⟨_,rfl⟩
 have l4:P2.length≤1000:=by rw[←e4];exact Nat.le_of_ble_eq_true rfl
 have l5:([0]:List Int).length≤1000:=Nat.le_of_ble_eq_true rfl
 have l6:([0]:List Int).length≤2:=Nat.le_of_ble_eq_true rfl
 obtain ⟨L2,e6⟩:∃s,[B,X]=s:=⟨_,rfl⟩
 have l7:(L2.length:Int)=2:=by rw[←e6];rfl
 have l8:L2.getD 0 (0,[],[],[])=B:=by rw[←e6];rfl
 have l9:L2.getD 1 (0,[],[],[])=X:=by rw[←e6];rfl
 obtain ⟨M1,e7⟩:∃s,[B]=s:=⟨_,rfl⟩
 have m1:(M1.length:Int)=1:=by rw[←e7];rfl
 have m2:M1.getD 0 (0,[],[],[])=B:=by rw[←e7];rfl
 obtain ⟨K,e8⟩:∃s:List DCase,[([0],0)]=s:=⟨_,rfl⟩
 have k1:(K.length:Int)=1:=by rw[←e8];rfl
 have k2:K.getD 0 ([],0)=([0],0):=by rw[←e8];rfl
 have x3:(X.2.1.length:Int)=2:=by omega
 have z1:(0:Int)≤0:=by decide
 have z2:(0:Int)<2:=by decide
 have z3:(0:Int)≤1:=by decide
 have z4:(1:Int)<2:=by decide
 have z5:(0:Int)<1:=by decide
 have z6:(((([]:List Int).length:Nat):Int))=0:=rfl
 have z7:(((([]:List DCase).length:Nat):Int))=0:=rfl
 have b2:(((2:Nat):Int)==2)=true:=rfl
 have b1:(((1:Nat):Int)==1)=true:=rfl
 have b0:(((0:Nat):Int)==0)=true:=rfl
 have b3:((2:Int)==2)=true:=rfl
 rw[e3,e6] at a4
 rw[e4,e7,e8] at a5 a6
 rw[e3] at p3
 rw[e4] at p2
 refine con_is (C:=csSml8 W mk be ck) x7 (by kernel_rfl) (by simp[csSml8,c1,c2,c3,c4,conSmP,conRsI]) fun x _ hf=>?_
 dsimp only[entSml8,x7,Z1,Z10,Z11,Z12,Z8,Z9,Za,Zb,Zc,Zd,Ze,Zf,Zg,Zh,Zi];simp (maxSteps:=10000000) only[↓hcsSml8,hCt,hMk,hBe,hCk,entCty,entMk,entBsX,entCh8,entSmP,entRsI,undef,e3,e4,l0,l1,l2,l3,l4,l5,l6,a1,a2,a3,a4,a5,a6,l7,l8,l9,m1,m2,k1,k2,x1,x3,b0,b1,b2,b3, z1,z2,z3,z4,z5,z6,z7,Int.toNat_one,p3,p2,go_sem]
 try simp only[e3,e4,l0,l1,l2,l3,l4,l5,l6,a1,a2,a3,a4,a5,a6,l7,l8,l9,m1,m2,k1,k2,x1,x3,b0,b1,b2,b3, z1,z2,z3,z4,z5,z6,z7,Int.toNat_one,p3,p2,td,reduceCtorEq]
 exact ⟨p3,p2⟩
theorem conSml8 (hB:Con Tryz.prog entBsX):Con Tryz.prog entSml8:=small8_gen (W:=ctyW) (mk:=makeF) (be:=bestR) (ck:=chkR) conCty conMk hB (conCh8 hB) rmA rmB rmC rb3 rb2 (by unfold chkR;rw[rb2];rfl) rfl rfl (by simp) (by simp)
def entMo8:Ent:=⟨6,.cons Z23 (.cons Z25 (.cons Z1 (.cons Z9 .nil))),.bool,false,none,fun _=>True,fun _=>true⟩
def csMo8:List Ent:=[entSml8,entFew8,entOf38,entBsX] theorem hcsMo8 (f:FuncId):findEnt csMo8 f=findEnt [entSml8,entFew8,entOf38,entBsX] f:=rfl
set_option maxHeartbeats 4000000 in
theorem conMo8 (hB:Con Tryz.prog entBsX):Con Tryz.prog entMo8:=by
 refine con_is (C:=csMo8) x6 (by kernel_rfl) (by simp[csMo8,conSml8 hB,conFew8,conOf38,hB]) fun x _ hf=>?_;obtain ⟨⟨(N:Int),(A:List DArc),(C:List DCar),(Q:List DReq),(P:List DPair),(S1:Int),(S2:Int),(S3:Int)⟩,(ps:List DPlan),(b:Int),(o:List Int),_⟩:=x;dsimp only[entMo8,x6,Z1,Z11,Z23,Za,Zb,Zc,Zd,Ze,Zf,Zg];cases h0:few8 (N,A,C,Q,P,S1,S2,S3) ps o []
 ·simp only[↓hcsMo8,entSml8,entFew8,entOf38,entBsX,undef,h0,go_sem];try simp only[h0,td,reduceCtorEq]
 obtain ⟨⟨_,f1,f2,f3,f4⟩,f5,_⟩:FewR8 (N,A,C,Q,P,S1,S2,S3) ps o []:=of_decide_eq_true h0;by_cases h2:ps.length=0
 ·have h2':(ps.length:Int)=0:=by omega
  simp only[↓hcsMo8,entSml8,entFew8,entOf38,entBsX,undef,h0,h2',go_sem];try simp only[h0,h2',td,reduceCtorEq]
 have h2':¬(ps.length:Int)=0:=by omega
 have p1:ps.length≤1000:=by omega
 have p2:o.length≤1000:=by omega
 have p5:∀p∈ps,p.2.1.length≤4:=fun p hp=>by
  obtain ⟨i,hi,rfl⟩:=mem_at dPln hp;exact (f5 i hi).1
 have p4:∀p∈ps,p.2.1.length≤16:=fun p hp=>Nat.le_trans (p5 p hp) (by decide);obtain ⟨⟨a1,a2,a3,a4⟩,hR⟩:∃r,bestR (N,A,C,Q,P,S1,S2,S3) ps b o=r:=⟨_,rfl⟩;by_cases h4:a4=0
 case neg=>
  simp only[↓hcsMo8,entSml8,entFew8,entOf38,entBsX,undef,h0,h2',p1,p2,f2,p4,hR,h4,go_sem];try simp only[h0,h2',p1,p2,f2,p4,hR,h4,td,reduceCtorEq]
  all_goals first|done|exact p4
 subst h4;obtain ⟨h4,x,F,hx⟩:o.length≤4∧∃x F,Rep8 (N,A,C,Q,P,S1,S2,S3) ps b o x F:=by
  rcases best_cases (w:=(N,A,C,Q,P,S1,S2,S3)) (b:=b) (o:=o) p5 with h|h
  ·exfalso;rcases h with h|h<;> · rw[hR] at h;exact absurd (congrArg (fun r=>r.2.2.2) h) (by simp)
  ·exact h
 obtain ⟨k,hk⟩:∃k,ps.length=k+1:=⟨ps.length-1,by omega⟩;have wk:IntKind.i64.wrap (((k+1:Nat):Int)-1)=(k:Int):=by rw[show ((k+1:Nat):Int)-1=(k:Int) by omega];exact i64_in _ (by omega)
 have p5k:∀p∈ps.take k,p.2.1.length≤4:=fun p hp=>p5 p (List.mem_of_mem_take hp);have p4k:∀p∈ps.take k,p.2.1.length≤16:=fun p hp=>p4 p (List.mem_of_mem_take hp);obtain ⟨y,G,hy⟩:=rep_of (hx.right.fewer k) h4 (Nat.le_trans (help_take k) hx.few) p5k;have hyx:=rep_more hx hy;have e:a2=lostF o x.1:=by have e:=hx.is;rw[hR] at e;exact congrArg (fun r=>r.2.1) e
 rw[←e] at hyx;have hY:=hy.is;obtain ⟨⟨y1,y2,y3,y4⟩,hRy⟩:∃r,bestR (N,A,C,Q,P,S1,S2,S3) (ps.take k) b o=r:=⟨_,rfl⟩;rw[hRy] at hY;have ey2:y2=lostF o y.1:=congrArg (fun r=>r.2.1) hY;have ey4:y4=0:=congrArg (fun r=>r.2.2.2) hY;rw[←ey2] at hyx;subst ey4;have hnl:¬(y2.length:Int)<(a2.length:Int):=by omega
 have hpk:(ps.take k).length≤1000:=by rw[List.length_take];omega
 have hkl:k≤ps.length:=by omega
 have hk1:k<k+1:=Nat.lt_succ_self k;have hkk:k≤k+1:=Nat.le_succ k;obtain ⟨c,hc⟩:∃c,(ps.getD k (0,[],[],[])).1=c:=⟨_,rfl⟩;by_cases ho:o.length=0
 ·have ho':(o.length:Int)=0:=by omega
  by_cases hcb:c=b<;>
  ·simp only[↓hcsMo8,entSml8,entFew8,entOf38,entBsX,undef,h0,h2',p1,p2,f2,p4,hR,hk,wk,hk1,hkk,hc,hcb,hpk,p4k,hRy,hnl,ho',go_sem];try simp only[h0,h2',p1,p2,f2,p4,hR,hk,wk,hk1,hkk,hc,hcb,hpk,p4k,hRy,hnl,ho',td,reduceCtorEq]
   all_goals ((repeat' (first|exact p4|exact p4k|apply And.intro|intro _))<;>omega)
 have ho':¬(o.length:Int)=0:=by omega
 obtain ⟨m,hm⟩:∃m,o.length=m+1:=⟨o.length-1,by omega⟩;have wm:IntKind.i64.wrap (((m+1:Nat):Int)-1)=(m:Int):=by rw[show ((m+1:Nat):Int)-1=(m:Int) by omega];exact i64_in _ (by omega)
 have hm':o.length-1=m:=by omega
 obtain ⟨z,H,hz⟩:=rep_of (hx.right.shorter m) (by rw[List.length_take];omega) hx.few p5;have hzx:=rep_less (by intro z;rw[z] at hm;simp at hm) hx (by rw[hm'];exact hz);rw[←e,hm'] at hzx;have hZ:=hz.is;obtain ⟨⟨z1,z2,z3,z4⟩,hRz⟩:∃r,bestR (N,A,C,Q,P,S1,S2,S3) ps b (o.take m)=r:=⟨_,rfl⟩;rw[hRz] at hZ;have ez2:z2=lostF (o.take m) z.1:=congrArg (fun r=>r.2.1) hZ;have ez4:z4=0:=congrArg (fun r=>r.2.2.2) hZ;rw[←ez2] at hzx;subst ez4;have hzl:(z2.length:Int)≤(a2.length:Int):=by omega
 have hom:(o.take m).length≤1000:=by rw[List.length_take];omega
 have hom2:(o.take m).length≤2∨4<(o.take m).length:=by rw[List.length_take];omega
 have hm1:m≤m+1:=Nat.le_succ m;by_cases hcb:c=b<;>
 ·simp only[↓hcsMo8,entSml8,entFew8,entOf38,entBsX,undef,h0,h2',p1,p2,f2,p4,hR,hk,wk,hk1,hkk,hc,hcb,hpk,p4k,hRy,hnl,ho',hm,wm,hm1,hom,hom2,hRz,hzl,go_sem];try simp only[h0,h2',p1,p2,f2,p4,hR,hk,wk,hk1,hkk,hc,hcb,hpk,p4k,hRy,hnl,ho',hm,wm,hm1,hom,hom2,hRz,hzl,td,reduceCtorEq]
  all_goals ((repeat' (first|exact p4|exact p4k|apply And.intro|intro _))<;>omega)
theorem conBsX:Con Tryz.prog entBsX:=by
 refine Con.to ⟨(conBs0.is rfl).1,fun x hx=>?_⟩ rfl;obtain ⟨⟨⟨h1,h2⟩,h3⟩,h4⟩:((List.length (α:=DPlan) x.2.1≤1000∧List.length (α:=Int) x.2.2.2.1≤1000)∧(List.length (α:=Int) x.2.2.2.1≤2∨4<List.length (α:=Int) x.2.2.2.1))∧∀p∈(x.2.1:List DPlan),p.2.1.length≤16:=hx;by_cases c0:List.length (α:=Int) x.2.2.2.1=0
 ·exact (conBs0.is rfl).2 x ⟨⟨h1,.inl c0⟩,h4⟩
 by_cases c1:List.length (α:=Int) x.2.2.2.1=1
 ·exact (conBs1.is rfl).2 x ⟨⟨h1,c1⟩,h4⟩
 by_cases c2:List.length (α:=Int) x.2.2.2.1=2
 ·exact (conBs2.is rfl).2 x ⟨⟨h1,c2⟩,h4⟩
 exact (conBs0.is rfl).2 x ⟨⟨h1,.inr ⟨by omega,h2⟩⟩,h4⟩
theorem conMo8':Con Tryz.prog entMo8:=conMo8 conBsX
end T
end Go.Proofs.YtpocfbfmjippnaaGreat
end
