/- Parts of the proof of the law; no condition. -/
import Derived.Test.YtpocfbfmjippnaaGreatG44
import Derived.Test.YtpocfbfmjippnaaGreatG45
import Derived.Test.YtpocfbfmjippnaaGreatG50
import Derived.Test.YtpocfbfmjippnaaGreatG51
import Derived.Test.YtpocfbfmjippnaaGreatG53
set_option linter.all false
section
namespace Go.Proofs.YtpocfbfmjippnaaGreat
open Go.RowKit Go.IntWalk
namespace T
set_option pp.deepTerms true
set_option pp.maxSteps 1000000
set_option maxHeartbeats 2000000
def entRsI:Ent:=⟨13,.cons Z5 (.cons Z5 .nil),.bool,false,none,fun _=>True,fun x=>decide ((x.1:List Int)=x.2.1)⟩
def csRsI:List Ent:=[entEqIn] theorem hcsRsI (f:FuncId):findEnt csRsI f=findEnt [entEqIn] f:=rfl
theorem conRsI:Con Tryz.prog entRsI:=by
 refine con_is (C:=csRsI) x13 (by kernel_rfl) (by simp[csRsI,conEqIn]) fun x hx hf=>?_;obtain ⟨(a:List Int),(b:List Int),_⟩:=x;have hl:a.length≤9223372036854775807:=hf.1.1;by_cases hab:a.length=b.length
 ·have habi:(a.length:Int)=(b.length:Int):=by omega
  dsimp only[entRsI,x13];simp only[↓hcsRsI,entEqIn,habi,go_sem];try simp only[habi,td,reduceCtorEq]
  refine XW_for 1000 x13_0d [] Nat (fun j=>[(5,.val Z1 (j:Int))]) (fun _=>[]) (fun j=>j≤a.length∧∀i,i<j→a.getD i 0=b.getD i 0) (fun j=>a.length-j) 0 ?_ ?_ ?_
  ·dsimp only[x13_0d];simp only[go_sem];try trivial
  ·exact ⟨Nat.zero_le _,fun i hi=>by omega⟩
  rintro j ⟨hj,hn⟩;by_cases hja:j<a.length
  ·have hjb:j<b.length:=by omega
   have w2:IntKind.i64.wrap ((j:Int)+1)=((j+1:Nat):Int):=i64_in _ (by omega);have hne:a.getD j 0≠b.getD j 0→decide (a=b)=false:=fun h=>decide_eq_false fun z=>h (by rw[z]);have hnx:a.getD j 0=b.getD j 0→∀i,i<j+1→a.getD i 0=b.getD i 0:=fun h i hi=>by
    rcases Nat.lt_or_ge i j with q|q
    ·exact hn i q
    ·rw[show i=j by omega];exact h
   obtain ⟨u,hA⟩:∃u,a.getD j 0=u:=⟨_,rfl⟩;obtain ⟨v,hB⟩:∃v,b.getD j 0=v:=⟨_,rfl⟩;rw[hA,hB] at hne hnx;skip;dsimp only[x13_0,x13_0d];simp only[↓hcsRsI,entEqIn,hja,hjb,w2,hA,hB,habi,go_sem];try simp only[hja,hjb,w2,hA,hB,habi,td,reduceCtorEq]
   exact ⟨fun h=>(hne h).symm,fun h=>⟨j+1,by omega,⟨by omega,hnx h⟩,rfl⟩⟩
  ·have hjb:¬j<b.length:=by omega
   have heq:decide (a=b)=true:=decide_eq_true (ext_getD 0 hab fun i hi=>hn i (by omega));dsimp only[x13_0,x13_0d];simp only[↓hcsRsI,entEqIn,hja,hjb,heq,habi,go_sem];try simp only[hja,hjb,heq,habi,td,reduceCtorEq]
   try trivial
 ·have habi:¬(a.length:Int)=(b.length:Int):=by omega
  have hne:decide (a=b)=false:=decide_eq_false fun z=>hab (by rw[z]);dsimp only[entRsI,x13];simp only[↓hcsRsI,entEqIn,habi,hne,go_sem];try simp only[habi,hne,td,reduceCtorEq]
  try trivial
set_option pp.deepTerms true
set_option pp.maxSteps 1000000
def entSml8:Ent:=⟨7,.nil,.bool,false,none,fun _=>True,fun _=>true⟩
def hCt (W:DWorld):Ent:={ entCty with F:=fun _=>W }
def hMk (mk:DWorld→Int→List DStop→DPlan×Int):Ent:={ entMk with F:=fun x=>((mk x.1 x.2.1 x.2.2.1).1,(mk x.1 x.2.1 x.2.2.1).2,()) }
def hBe (be:DWorld→List DPlan→Int→List Int→List DPlan×List Int×List DCase×Int):Ent:={ entBsX with F:=fun x=>((be x.1 x.2.1 x.2.2.1 x.2.2.2.1).1,(be x.1 x.2.1 x.2.2.1 x.2.2.2.1).2.1,(be x.1 x.2.1 x.2.2.1 x.2.2.2.1).2.2.1,(be x.1 x.2.1 x.2.2.1 x.2.2.2.1).2.2.2,()) }
def hCk (ck:DWorld→List DPlan→Int→List Int→List DPlan→List Int→List DCase→Int):Ent:={ entCh8 with F:=fun x=>ck x.1 x.2.1 x.2.2.1 x.2.2.2.1 x.2.2.2.2.1 x.2.2.2.2.2.1 x.2.2.2.2.2.2.1 }
def csSml8 (W:DWorld) (mk:DWorld→Int→List DStop→DPlan×Int) (be:DWorld→List DPlan→Int→List Int→List DPlan×List Int×List DCase×Int) (ck:DWorld→List DPlan→Int→List Int→List DPlan→List Int→List DCase→Int):List Ent:=[hCt W,hMk mk,hBe be,hCk ck,entSmP,entRsI]
theorem hcsSml8 (W:DWorld) (mk:DWorld→Int→List DStop→DPlan×Int) (be:DWorld→List DPlan→Int→List Int→List DPlan×List Int×List DCase×Int) (ck:DWorld→List DPlan→Int→List Int→List DPlan→List Int→List DCase→Int) (f:FuncId):findEnt (csSml8 W mk be ck) f=findEnt [hCt W,hMk mk,hBe be,hCk ck,entSmP,entRsI] f:=rfl
set_option maxHeartbeats 8000000 in
set_option maxRecDepth 20000 in
theorem small8_gen {W:DWorld} {mk:DWorld→Int→List DStop→DPlan×Int} {be:DWorld→List DPlan→Int→List Int→List DPlan×List Int×List DCase×Int} {ck:DWorld→List DPlan→Int→List Int→List DPlan→List Int→List DCase→Int} (c1:Con Tryz.prog (hCt W)) (c2:Con Tryz.prog (hMk mk)) (c3:Con Tryz.prog (hBe be)) (c4:Con Tryz.prog (hCk ck)) {A B C X:DPlan}
  (a1:mk W 0 [(0,true),(0,false)]=(A,0)) (a2:mk W 1 [(2,true),(2,false)]=(B,0)) (a3:mk W 2 []=(C,0)) (a4:be W [A,B,C] 0 [0]=([B,X],[],[],0)) (a5:be W [A,B] 0 [0]=([B],[0],[([0],0)],0)) (a6:ck W [A,B] 0 [0] [B] [0] [([0],0)]=0)
  (x1:X.1=2) (x2:X.2.1.length=2) (p3:∀p∈[A,B,C],p.2.1.length≤16) (p2:∀p∈[A,B],p.2.1.length≤16):Con Tryz.prog entSml8:=by
 have l1:([(0,true),(0,false)]:List DStop).length≤24:=Nat.le_of_ble_eq_true rfl
 have l2:([(2,true),(2,false)]:List DStop).length≤24:=Nat.le_of_ble_eq_true rfl
 have l0:([]:List DStop).length≤24:=Nat.le_of_ble_eq_true rfl
 obtain ⟨P3,e3⟩:∃s,[A,B,C]=s:=⟨_,rfl⟩
 have l3:P3.length≤1000:=by rw[←e3];exact Nat.le_of_ble_eq_true rfl
 obtain ⟨P2,e4⟩:∃s,[A,B]=s:=⟨_,rfl⟩
 have l4:P2.length≤1000:=by rw[←e4];exact Nat.le_of_ble_eq_true rfl
 have l5:([0]:List Int).length≤1000:=Nat.le_of_ble_eq_true rfl
 have l6:([0]:List Int).length≤2:=Nat.le_of_ble_eq_true rfl
 obtain ⟨L2,e6⟩:∃s,[B,X]=s:=⟨_,rfl⟩
 have l7:(L2.length:Int)=2:=by rw[←e6];rfl
 have l8:L2.getD 0 (0,[],[],[])=B:=by rw[←e6];rfl
 have l9:L2.getD 1 (0,[],[],[])=X:=by rw[←e6];rfl
 obtain ⟨M1,e7⟩:∃s,[B]=s:=⟨_,rfl⟩
 have m1:(M1.length:Int)=1:=by rw[←e7];rfl
 have m2:M1.getD 0 (0,[],[],[])=B:=by rw[←e7];rfl
 obtain ⟨K,e8⟩:∃s:List DCase,[([0],0)]=s:=⟨_,rfl⟩
 have k1:(K.length:Int)=1:=by rw[←e8];rfl
 have k2:K.getD 0 ([],0)=([0],0):=by rw[←e8];rfl
 have x3:(X.2.1.length:Int)=2:=by omega
 have z1:(0:Int)≤0:=by decide
 have z2:(0:Int)<2:=by decide
 have z3:(0:Int)≤1:=by decide
 have z4:(1:Int)<2:=by decide
 have z5:(0:Int)<1:=by decide
 have z6:(((([]:List Int).length:Nat):Int))=0:=rfl
 have z7:(((([]:List DCase).length:Nat):Int))=0:=rfl
 have b2:(((2:Nat):Int)==2)=true:=rfl
 have b1:(((1:Nat):Int)==1)=true:=rfl
 have b0:(((0:Nat):Int)==0)=true:=rfl
 have b3:((2:Int)==2)=true:=rfl
 rw[e3,e6] at a4
 rw[e4,e7,e8] at a5 a6
 rw[e3] at p3
 rw[e4] at p2
 refine con_is (C:=csSml8 W mk be ck) x7 (by kernel_rfl) (by simp[csSml8,c1,c2,c3,c4,conSmP,conRsI]) fun x _ hf=>?_
 dsimp only[entSml8,x7];simp (maxSteps:=10000000) only[↓hcsSml8,hCt,hMk,hBe,hCk,entCty,entMk,entBsX,entCh8,entSmP,entRsI,undef,e3,e4,l0,l1,l2,l3,l4,l5,l6,a1,a2,a3,a4,a5,a6,l7,l8,l9,m1,m2,k1,k2,x1,x3,b0,b1,b2,b3, z1,z2,z3,z4,z5,z6,z7,Int.toNat_one,p3,p2,go_sem]
 try simp only[e3,e4,l0,l1,l2,l3,l4,l5,l6,a1,a2,a3,a4,a5,a6,l7,l8,l9,m1,m2,k1,k2,x1,x3,b0,b1,b2,b3, z1,z2,z3,z4,z5,z6,z7,Int.toNat_one,p3,p2,td,reduceCtorEq]
 exact ⟨p3,p2⟩
theorem conSml8 (hB:Con Tryz.prog entBsX):Con Tryz.prog entSml8:=small8_gen (W:=ctyW) (mk:=makeF) (be:=bestR) (ck:=chkR) conCty conMk hB (conCh8 hB) rmA rmB rmC rb3 rb2 (by unfold chkR;rw[rb2];rfl) rfl rfl (by simp) (by simp)
theorem conBsX:Con Tryz.prog entBsX:=by
 refine Con.to ⟨(conBs0.is rfl).1,fun x hx=>?_⟩ rfl;obtain ⟨⟨⟨h1,h2⟩,h3⟩,h4⟩:((List.length (α:=DPlan) x.2.1≤1000∧List.length (α:=Int) x.2.2.2.1≤1000)∧(List.length (α:=Int) x.2.2.2.1≤2∨4<List.length (α:=Int) x.2.2.2.1))∧∀p∈(x.2.1:List DPlan),p.2.1.length≤16:=hx;by_cases c0:List.length (α:=Int) x.2.2.2.1=0
 ·exact (conBs0.is rfl).2 x ⟨⟨h1,.inl c0⟩,h4⟩
 by_cases c1:List.length (α:=Int) x.2.2.2.1=1
 ·exact (conBs1.is rfl).2 x ⟨⟨h1,c1⟩,h4⟩
 by_cases c2:List.length (α:=Int) x.2.2.2.1=2
 ·exact (conBs2.is rfl).2 x ⟨⟨h1,c2⟩,h4⟩
 exact (conBs0.is rfl).2 x ⟨⟨h1,.inr ⟨by omega,h2⟩⟩,h4⟩
end T
end Go.Proofs.YtpocfbfmjippnaaGreat
end
