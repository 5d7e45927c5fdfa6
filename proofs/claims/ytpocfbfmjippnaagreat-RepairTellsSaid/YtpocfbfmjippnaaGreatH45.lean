/- Parts of the proof of the law; no condition. -/
import Derived.Test.YtpocfbfmjippnaaGreatH44
import Derived.Test.YtpocfbfmjippnaaGreatH51
set_option linter.all false
section
namespace Go.Proofs.YtpocfbfmjippnaaGreat
open Go.RowKit Go.IntWalk
namespace T
set_option pp.deepTerms true
set_option pp.maxSteps 1000000
def entB38:Ent:=⟨11,.cons Z21 (.cons Z23 (.cons Z1 (.cons Z5 .nil))),.cons Z23 (.cons Z5 (.cons Z25 (.cons Z1 .nil))),true,none,entBsX.pre,entBsX.F⟩
def entC38:Ent:=⟨18,.cons Z21 (.cons Z23 (.cons Z1 (.cons Z5 (.cons Z23 (.cons Z5 (.cons Z25 .nil)))))),(.int .i64),false,none,fun x=>entBsX.pre (x.1,x.2.1,x.2.2.1,x.2.2.2.1,()),fun x=>chkR x.1 x.2.1 x.2.2.1 x.2.2.2.1 x.2.2.2.2.1 x.2.2.2.2.2.1 x.2.2.2.2.2.2.1⟩
def csC38:List Ent:=[entB38,entRsP,entRsI,entRsC] theorem hcsC38 (f:FuncId):findEnt csC38 f=findEnt [entB38,entRsP,entRsI,entRsC] f:=rfl
set_option maxHeartbeats 4000000 in
theorem conC38 (hB:Con Tryz.prog entB38):Con Tryz.prog entC38:=by
 refine con_is (C:=csC38) x18 (by kernel_rfl) (by simp[csC38,hB,conRsP,conRsI,conRsC]) fun x hx hf=>?_;obtain ⟨⟨(N:Int),(A:List DArc),(C:List DCar),(Q:List DReq),(P:List DPair),(S1:Int),(S2:Int),(S3:Int)⟩,(ps:List DPlan),(b:Int),(o:List Int),(af:List DPlan),(lo:List Int),(pr:List DCase),_⟩:=x;obtain ⟨⟨⟨h1,h2⟩,h3⟩,h4⟩:((ps.length≤1000∧o.length≤1000)∧(o.length≤2∨4<o.length))∧∀p∈ps,p.2.1.length≤16:=hx;dsimp only[entC38,x18];obtain ⟨⟨r1,r2,r3,r4⟩,hR⟩:∃r,bestR (N,A,C,Q,P,S1,S2,S3) ps b o=r:=⟨_,rfl⟩;simp only[↓hcsC38,entB38,entBsX,entRsP,entRsI,entRsC,undef,hR,h1,h2,h3,h4,go_sem];try simp only[hR,h1,h2,h3,h4,td,reduceCtorEq]
 have hC:chkR (N,A,C,Q,P,S1,S2,S3) ps b o af lo pr=if r4≠0 then r4 else if r1=af∧r2=lo∧r3=pr then 0 else 23:=by unfold chkR;rw[hR]
 refine ⟨h4,fun h=>?_,fun h=>⟨fun g=>?_,fun g=>?_⟩⟩
 ·rw[hC,if_pos h]
 ·rw[hC,if_neg (fun z=>z h),if_neg (fun z=>g.elim (fun g=>g.elim (· z.1) (· z.2.1)) (· z.2.2))]
 ·rw[hC,if_neg (fun z=>z h),if_pos ⟨g.1.1,g.1.2,g.2⟩]
set_option pp.deepTerms true
set_option pp.maxSteps 1000000
def entCty:Ent:=⟨28,.nil,Z21,false,none,fun _=>True,fun _=>ctyW⟩
def csCty:List Ent:=[] theorem hcsCty (f:FuncId):findEnt csCty f=findEnt [] f:=rfl
theorem conCty:Con Tryz.prog entCty:=by
 refine con_is (C:=csCty) x28 (by kernel_rfl) (by simp[csCty]) fun x hx hf=>?_;obtain ⟨⟩:=x;obtain ⟨W,hW⟩:∃W:DWorld,ctyW=W:=⟨_,rfl⟩;obtain ⟨R,hR⟩:∃R:Nat→List Int,∀k,R k=List.replicate k (10:Int):=⟨_,fun k=>rfl⟩;have hRl:∀k,(R k).length=k:=fun k=>by rw[hR,List.length_replicate]
 have hRn:∀k,R k++[10]=R (k+1):=fun k=>by rw[hR,hR,←List.replicate_succ']
 have hR1:[10]=R 1:=by rw[hR];rfl
 dsimp only[entCty,x28];rw[hW];simp only[↓hcsCty,undef,go_sem];try simp only[td,reduceCtorEq]
 obtain ⟨AR,h1,h2⟩:∃AR:Nat→List DArc,AR 1=[(0,1,R 24,R 24)]∧AR 2=[(0,1,R 24,R 24),(1,0,R 24,R 24)]:=
  ⟨fun k=>[(0,1,R 24,R 24),(1,0,R 24,R 24)].take k,rfl,rfl⟩
 refine XW_first 1000 x28_0d [0] Nat (fun k=>[(2,.val Z1 (k:Int))]) (fun k=>[(1,.box 39 [.val Z1 2,.own 100,.cst (.slice none 0 0),.cst (.slice none 0 0),.cst (.slice none 0 0),.val Z1 100,.val Z1 30,.val Z1 300]),(100,.row 113 Z11 (AR k))])
  (fun k=>1≤k∧k≤2) (fun k=>2-k) 2 ?_ ?_
 ·dsimp only[x28_0,x28_0d];have n02:(0:Int)<2:=by decide
  have w10:IntKind.i64.wrap (1-0)=1:=by decide
  have w01:IntKind.i64.wrap (0+1)=((1:Nat):Int):=by decide
  have n024:(0:Int)<24:=by decide
  simp only[↓hcsCty,undef,n02,w10,go_sem];try simp only[n02,w10,td,reduceCtorEq]
  refine XW_first 2000 x28_1d [0,1] Nat (fun h=>[(4,.val Z1 (h:Int))]) (fun h=>[(14,.box 113 [.val Z1 0,.val Z1 1,.own 1100,.own 1101]),(1100,.row 3 (.int .i64) (R h)),(1101,.row 3 (.int .i64) (R h))]) (fun h=>1≤h∧h≤24) (fun h=>24-h) 24 ?_ ?_
  ·dsimp only[x28_1,x28_1d];simp only[↓hcsCty,undef,n024,w01,hR1,go_sem];try simp only[n024,w01,hR1,td,reduceCtorEq]
   exact ⟨by rw[hRl];decide,by rw[hRl];decide,1,by omega,⟨by omega,by omega⟩,rfl,rfl⟩
  intro h hh;dsimp only[x28_1,x28_1d];by_cases hh':h<24
  ·have hki:(h:Int)<24:=by omega
   have w2:IntKind.i64.wrap ((h:Int)+1)=((h+1:Nat):Int):=i64_in _ (by omega);have hb:((R h).length+1)*8≤140737488355328:=by rw[hRl];omega
   simp only[↓hcsCty,undef,hki,w2,hb,hRn,go_sem];try simp only[hki,w2,hb,hRn,td,reduceCtorEq]
   exact ⟨h+1,by omega,⟨by omega,by omega⟩,rfl,rfl⟩
  obtain rfl:h=24:=by omega
  have hki:¬((24:Nat):Int)<24:=by decide
  have hA:[((0:Int),(1:Int),R 24,R 24)]=AR 1:=h1.symm;simp only[↓hcsCty,undef,hki,w01,hA,go_sem];try simp only[hki,w01,hA,td,reduceCtorEq]
  exact ⟨by rw[h1];exact Nat.le_of_ble_eq_true rfl,1,by omega,⟨by omega,by omega⟩,rfl,rfl⟩
 intro k hk;dsimp only[x28_0,x28_0d];rcases (by omega:k=1∨k=2) with rfl|rfl
 ·have n12:((1:Nat):Int)<2:=by decide
  have w10:IntKind.i64.wrap (1-((1:Nat):Int))=0:=by decide
  have w01:IntKind.i64.wrap (0+1)=((1:Nat):Int):=by decide
  have w12:IntKind.i64.wrap (((1:Nat):Int)+1)=((2:Nat):Int):=by decide
  have n024:(0:Int)<24:=by decide
  have hb:((AR 1).length+1)*64≤140737488355328:=by rw[h1];exact Nat.le_of_ble_eq_true rfl
  simp only[↓hcsCty,undef,n12,w10,go_sem];try simp only[n12,w10,td,reduceCtorEq]
  refine XW_first 2000 x28_1d [0,1,100] Nat (fun h=>[(4,.val Z1 (h:Int))]) (fun h=>[(1006,.box 113 [.val Z1 ((1:Nat):Int),.val Z1 0,.own 1100,.own 1101]),(1100,.row 3 (.int .i64) (R h)),(1101,.row 3 (.int .i64) (R h))]) (fun h=>1≤h∧h≤24) (fun h=>24-h) 24 ?_ ?_
  ·dsimp only[x28_1,x28_1d];simp only[↓hcsCty,undef,n024,w01,hR1,go_sem];try simp only[n024,w01,hR1,td,reduceCtorEq]
   exact ⟨by rw[hRl];decide,by rw[hRl];decide,1,by omega,⟨by omega,by omega⟩,rfl,rfl⟩
  intro h hh;dsimp only[x28_1,x28_1d];by_cases hh':h<24
  ·have hki:(h:Int)<24:=by omega
   have w2:IntKind.i64.wrap ((h:Int)+1)=((h+1:Nat):Int):=i64_in _ (by omega);have hb:((R h).length+1)*8≤140737488355328:=by rw[hRl];omega
   simp only[↓hcsCty,undef,hki,w2,hb,hRn,go_sem];try simp only[hki,w2,hb,hRn,td,reduceCtorEq]
   exact ⟨h+1,by omega,⟨by omega,by omega⟩,rfl,rfl⟩
  obtain rfl:h=24:=by omega
  have hki:¬((24:Nat):Int)<24:=by decide
  have hA:AR 1++[(((1:Nat):Int),(0:Int),R 24,R 24)]=AR 2:=by rw[h1,h2];rfl
  simp only[↓hcsCty,undef,hki,w12,hb,hA,go_sem];try simp only[hki,w12,hb,hA,td,reduceCtorEq]
  exact ⟨2,by omega,⟨by omega,by omega⟩,rfl,rfl⟩
 have n22:¬((2:Nat):Int)<2:=by decide
 simp only[↓hcsCty,undef,n22,go_sem];try simp only[n22,td,reduceCtorEq]
 obtain ⟨CR,hCR⟩:∃CR:Nat→List DCar,∀k,CR k=List.replicate k (0,0,0,100,1,0,0,0,0):=⟨_,fun k=>rfl⟩;obtain ⟨QR,hQR⟩:∃QR:Nat→List DReq,∀k,QR k=List.replicate k (0,0,1,20,30,60,40,1,0,0):=⟨_,fun k=>rfl⟩;have hC1:[(0,0,0,100,1,0,0,0,0)]=CR 1:=by rw[hCR];rfl
 have hQ1:[(0,0,1,20,30,60,40,1,0,0)]=QR 1:=by rw[hQR];rfl
 have hCn:∀k,CR k++[(0,0,0,100,1,0,0,0,0)]=CR (k+1):=fun k=>by rw[hCR,hCR,←List.replicate_succ']
 have hQn:∀k,QR k++[(0,0,1,20,30,60,40,1,0,0)]=QR (k+1):=fun k=>by rw[hQR,hQR,←List.replicate_succ']
 refine XW_first 1000 x28_2d [0,100] Nat (fun k=>[(5,.val Z1 (k:Int))]) (fun k=>[(1,.box 39 [.val Z1 2,.own 100,.own 101,.own 102,.cst (.slice none 0 0),.val Z1 100,.val Z1 30,.val Z1 300]),(101,.row 115 Z19 (CR k)),(102,.row 117 Z6 (QR k))])
  (fun k=>1≤k∧k≤3) (fun k=>3-k) 3 ?_ ?_
 ·dsimp only[x28_2,x28_2d];have n03:(0:Int)<3:=by decide
  have w01:IntKind.i64.wrap (0+1)=((1:Nat):Int):=by decide
  simp only[↓hcsCty,undef,n03,w01,hC1,hQ1,go_sem];try simp only[n03,w01,hC1,hQ1,td,reduceCtorEq]
  exact ⟨by rw[hCR];exact Nat.le_of_ble_eq_true rfl,by rw[hQR];exact Nat.le_of_ble_eq_true rfl,1,by omega,⟨by omega,by omega⟩,rfl,rfl,rfl⟩
 intro k hk;dsimp only[x28_2,x28_2d];by_cases hk':k<3
 ·have hki:(k:Int)<3:=by omega
  have w2:IntKind.i64.wrap ((k:Int)+1)=((k+1:Nat):Int):=i64_in _ (by omega);have hb1:((CR k).length+1)*72≤140737488355328:=by rw[hCR,List.length_replicate];omega
  have hb2:((QR k).length+1)*80≤140737488355328:=by rw[hQR,List.length_replicate];omega
  simp only[↓hcsCty,undef,hki,w2,hb1,hb2,hCn,hQn,go_sem];try simp only[hki,w2,hb1,hb2,hCn,hQn,td,reduceCtorEq]
  exact ⟨k+1,by omega,⟨by omega,by omega⟩,rfl,rfl,rfl⟩
 obtain rfl:k=3:=by omega
 have hki:¬((3:Nat):Int)<3:=by decide
 simp only[↓hcsCty,undef,hki,go_sem];try simp only[hki,td,reduceCtorEq]
 rw[←hW,h2,hCR,hQR,hR];rfl
set_option pp.deepTerms true
set_option pp.maxSteps 1000000
def entSml8:Ent:=⟨7,.nil,.bool,false,none,fun _=>True,fun _=>true⟩
def hCt (W:DWorld):Ent:={ entCty with F:=fun _=>W }
def hMk (mk:DWorld→Int→List DStop→DPlan×Int):Ent:={ entMk with F:=fun x=>((mk x.1 x.2.1 x.2.2.1).1,(mk x.1 x.2.1 x.2.2.1).2,()) }
def hBe (be:DWorld→List DPlan→Int→List Int→List DPlan×List Int×List DCase×Int):Ent:={ entBsX with F:=fun x=>((be x.1 x.2.1 x.2.2.1 x.2.2.2.1).1,(be x.1 x.2.1 x.2.2.1 x.2.2.2.1).2.1,(be x.1 x.2.1 x.2.2.1 x.2.2.2.1).2.2.1,(be x.1 x.2.1 x.2.2.1 x.2.2.2.1).2.2.2,()) }
def hCk (ck:DWorld→List DPlan→Int→List Int→List DPlan→List Int→List DCase→Int):Ent:={ entCh8 with F:=fun x=>ck x.1 x.2.1 x.2.2.1 x.2.2.2.1 x.2.2.2.2.1 x.2.2.2.2.2.1 x.2.2.2.2.2.2.1 }
def csSml8 (W:DWorld) (mk:DWorld→Int→List DStop→DPlan×Int) (be:DWorld→List DPlan→Int→List Int→List DPlan×List Int×List DCase×Int) (ck:DWorld→List DPlan→Int→List Int→List DPlan→List Int→List DCase→Int):List Ent:=[hCt W,hMk mk,hBe be,hCk ck,entSmP,entRsI]
theorem hcsSml8 (W:DWorld) (mk:DWorld→Int→List DStop→DPlan×Int) (be:DWorld→List DPlan→Int→List Int→List DPlan×List Int×List DCase×Int) (ck:DWorld→List DPlan→Int→List Int→List DPlan→List Int→List DCase→Int) (f:FuncId):findEnt (csSml8 W mk be ck) f=findEnt [hCt W,hMk mk,hBe be,hCk ck,entSmP,entRsI] f:=rfl
set_option maxHeartbeats 8000000 in
set_option maxRecDepth 20000 in
theorem small8_gen {W:DWorld} {mk:DWorld→Int→List DStop→DPlan×Int} {be:DWorld→List DPlan→Int→List Int→List DPlan×List Int×List DCase×Int} {ck:DWorld→List DPlan→Int→List Int→List DPlan→List Int→List DCase→Int} (c1:Con Tryz.prog (hCt W)) (c2:Con Tryz.prog (hMk mk)) (c3:Con Tryz.prog (hBe be)) (c4:Con Tryz.prog (hCk ck)) {A B C X:DPlan}
  (a1:mk W 0 [(0,true),(0,false)]=(A,0)) (a2:mk W 1 [(2,true),(2,false)]=(B,0)) (a3:mk W 2 []=(C,0)) (a4:be W [A,B,C] 0 [0]=([B,X],[],[],0)) (a5:be W [A,B] 0 [0]=([B],[0],[([0],0)],0)) (a6:ck W [A,B] 0 [0] [B] [0] [([0],0)]=0)
  (x1:X.1=2) (x2:X.2.1.length=2) (p3:∀p∈[A,B,C],p.2.1.length≤16) (p2:∀p∈[A,B],p.2.1.length≤16):Con Tryz.prog entSml8:=by
 have l1:([(0,true),(0,false)]:List DStop).length≤24:=Nat.le_of_ble_eq_true rfl
 have l2:([(2,true),(2,false)]:List DStop).length≤24:=Nat.le_of_ble_eq_true rfl
 have l0:([]:List DStop).length≤24:=Nat.le_of_ble_eq_true rfl
 obtain ⟨P3,e3⟩:∃s,[A,B,C]=s:=⟨_,rfl⟩
 have l3:P3.length≤1000:=by rw[←e3];exact Nat.le_of_ble_eq_true rfl
 obtain ⟨P2,e4⟩:∃s,[A,B]=s:=⟨_,rfl⟩
 have l4:P2.length≤1000:=by rw[←e4];exact Nat.le_of_ble_eq_true rfl
 have l5:([0]:List Int).length≤1000:=Nat.le_of_ble_eq_true rfl
 have l6:([0]:List Int).length≤2:=Nat.le_of_ble_eq_true rfl
 obtain ⟨L2,e6⟩:∃s,[B,X]=s:=⟨_,rfl⟩
 have l7:(L2.length:Int)=2:=by rw[←e6];rfl
 have l8:L2.getD 0 (0,[],[],[])=B:=by rw[←e6];rfl
 have l9:L2.getD 1 (0,[],[],[])=X:=by rw[←e6];rfl
 obtain ⟨M1,e7⟩:∃s,[B]=s:=⟨_,rfl⟩
 have m1:(M1.length:Int)=1:=by rw[←e7];rfl
 have m2:M1.getD 0 (0,[],[],[])=B:=by rw[←e7];rfl
 obtain ⟨K,e8⟩:∃s:List DCase,[([0],0)]=s:=⟨_,rfl⟩
 have k1:(K.length:Int)=1:=by rw[←e8];rfl
 have k2:K.getD 0 ([],0)=([0],0):=by rw[←e8];rfl
 have x3:(X.2.1.length:Int)=2:=by omega
 have z1:(0:Int)≤0:=by decide
 have z2:(0:Int)<2:=by decide
 have z3:(0:Int)≤1:=by decide
 have z4:(1:Int)<2:=by decide
 have z5:(0:Int)<1:=by decide
 have z6:(((([]:List Int).length:Nat):Int))=0:=rfl
 have z7:(((([]:List DCase).length:Nat):Int))=0:=rfl
 have b2:(((2:Nat):Int)==2)=true:=rfl
 have b1:(((1:Nat):Int)==1)=true:=rfl
 have b0:(((0:Nat):Int)==0)=true:=rfl
 have b3:((2:Int)==2)=true:=rfl
 rw[e3,e6] at a4
 rw[e4,e7,e8] at a5 a6
 rw[e3] at p3
 rw[e4] at p2
 refine con_is (C:=csSml8 W mk be ck) x7 (by kernel_rfl) (by simp[csSml8,c1,c2,c3,c4,conSmP,conRsI]) fun x _ hf=>?_
 dsimp only[entSml8,x7];simp (maxSteps:=10000000) only[↓hcsSml8,hCt,hMk,hBe,hCk,entCty,entMk,entBsX,entCh8,entSmP,entRsI,undef,e3,e4,l0,l1,l2,l3,l4,l5,l6,a1,a2,a3,a4,a5,a6,l7,l8,l9,m1,m2,k1,k2,x1,x3,b0,b1,b2,b3, z1,z2,z3,z4,z5,z6,z7,Int.toNat_one,p3,p2,go_sem]
 try simp only[e3,e4,l0,l1,l2,l3,l4,l5,l6,a1,a2,a3,a4,a5,a6,l7,l8,l9,m1,m2,k1,k2,x1,x3,b0,b1,b2,b3, z1,z2,z3,z4,z5,z6,z7,Int.toNat_one,p3,p2,td,reduceCtorEq]
 exact ⟨p3,p2⟩
theorem conSml8 (hB:Con Tryz.prog entBsX):Con Tryz.prog entSml8:=small8_gen (W:=ctyW) (mk:=makeF) (be:=bestR) (ck:=chkR) conCty conMk hB (conCh8 hB) rmA rmB rmC rb3 rb2 (by unfold chkR;rw[rb2];rfl) rfl rfl (by simp) (by simp)
end T
end Go.Proofs.YtpocfbfmjippnaaGreat
end
