/- Parts of the proof of the law; no condition. -/
import Derived.Test.YtcnfmabhghhdnaaGreatA50
import Derived.Test.YtcnfmabhghhdnaaGreatA53
set_option linter.all false
section
namespace Go.Proofs.YtcnfmabhghhdnaaGreat
namespace T
theorem try_right {w:DWorld} {ps:List DPlan} {m:DMove} (h:RightPs w ps):tryF w ps m=movedF w ps m:=by
 unfold tryF;rw[if_pos (rightPs_iff.2 h)]
theorem sum_right {w:DWorld} {ps:List DPlan} (h:RightPs w ps):sumF w ps=(totalF w ps,true):=by
 unfold sumF;rw[if_pos (rightPs_iff.2 h)]
abbrev exS0:List DStop:=[(0,true),(0,false),(1,true),(1,false)]
abbrev exP0:DPlan:=(0,[(0,true),(0,false),(1,true),(1,false)],[(20,20),(10,10),(0,0),(10,10)],[0,0,0,0,0])
abbrev exP1:DPlan:=(1,[],[],[0])
abbrev exT0:DPlan:=(0,[(1,true),(1,false)],[(10,10),(10,10)],[0,0,0])
abbrev exT1:DPlan:=(1,[(0,true),(0,false)],[(0,0),(10,10)],[0,0,0])
abbrev exU0:DPlan:=(0,[(1,true),(0,true),(1,false),(0,false)],[(10,10),(10,10),(0,0),(10,10)],[0,0,0,0,0])
theorem ex1:makeF exW 0 exS0=(exP0,0):=by rw[mkE_eq];decide+kernel
theorem ex2:makeF exW 1 []=(exP1,0):=by rw[mkE_eq];decide+kernel
theorem exR {a b:DPlan} (h1:a.1=0) (h2:b.1=1) (h3:ckE a=0) (h4:ckE b=0) (h5:apartB a b=true):RightPs exW [a,b]:=by
 refine ⟨by decide,rfl,fun j hj=>?_⟩;have:j=0∨j=1:=by have:j<2:=hj;omega
 rcases this with rfl|rfl
 ·exact ⟨⟨h1,(ckE_eq a).trans h3⟩,fun i hi=>absurd hi (Nat.not_lt_zero _)⟩
 ·refine ⟨⟨h2,(ckE_eq b).trans h4⟩,fun i hi=>?_⟩;obtain rfl:i=0:=by omega
  exact h5
theorem exRP:RightPs exW [exP0,exP1]:=exR rfl rfl (by decide+kernel) (by decide+kernel) (by decide)
theorem exRT:RightPs exW [exT0,exT1]:=exR rfl rfl (by decide+kernel) (by decide+kernel) (by decide)
theorem exRU:RightPs exW [exU0,exP1]:=exR rfl rfl (by decide+kernel) (by decide+kernel) (by decide)
theorem ex3:sumF exW [exP0,exP1]=(40,true):=by
 rw[sum_right exRP];unfold totalF;rw[enE_fun];decide+kernel
theorem ex4:tryF exW [exP0,exP1] (0,0,1,0,0)=([exT0,exT1],0):=by
 rw[try_right exRP];unfold movedF;rw[mkE_fun];kernel_rfl
theorem ex5:sumF exW [exT0,exT1]=(30,true):=by
 rw[sum_right exRT];unfold totalF;rw[enE_fun];decide+kernel
theorem ex6:improveF exW [exP0,exP1]=([exU0,exP1],[(0,0,0,1,2)],0):=by
 unfold improveF;rw[if_pos (rightPs_iff.2 exRP)];unfold impF;rw[mkE_fun,enE_fun];kernel_rfl
theorem ex7:sumF exW [exU0,exP1]=(30,true):=by
 rw[sum_right exRU];unfold totalF;rw[enE_fun];decide+kernel
theorem end_val {w:DWorld} {p:DPlan} {t:Int} (h:checkP w p=0) (e:endF w p=t):endP w p=(t,0):=by
 unfold endF at e;refine Prod.ext e ?_;rw[endP_eq,if_neg (Decidable.not_not.2 h)]
theorem ex8:endP exW exT0=(20,0):=end_val ((ckE_eq _).trans (by decide+kernel)) (by rw[enE_fun];decide+kernel)
end T
end Go.Proofs.YtcnfmabhghhdnaaGreat
end
section
namespace Go.Proofs.YtcnfmabhghhdnaaGreat
open Go.RowKit Go.IntWalk
namespace T
def entExm:Ent:=⟨25,.nil,.cons Z24 (.cons Z12 .nil),true,none,fun _=>True,fun _=>(exW,exS0,())⟩
def csExm:List Ent:=[entTen] theorem hcsExm (f:FuncId):findEnt csExm f=findEnt [entTen] f:=rfl
theorem conExm:Con Tryz.prog entExm:=by
 refine con_is (C:=csExm) x25 (by kernel_rfl) (by simp[csExm,conTen]) fun x hx hf=>?_;obtain ⟨⟩:=x;obtain ⟨W,hW⟩:∃W:DWorld,exW=W:=⟨_,rfl⟩;have hE:W=(3,[arcE 0 1,arcE 1 0,arcE 1 2,arcE 2 1],[(0,0,0,500,4,0,0,0,0),(0,2,0,500,4,0,0,0,0)],[(0,2,1,0,400,400,100,1,0,0),(1,1,2,0,400,400,100,1,0,0)],[],400,30,600):=hW.symm;obtain ⟨L24,hL⟩:∃L,List.replicate 24 (10:Int)=L:=⟨_,rfl⟩;have hA:∀a b,arcE a b=(a,b,L24,L24):=fun a b=>by unfold arcE;rw[hL]
 dsimp only[entExm,x25,Z1,Z10,Z19,Z23,Z24,Z5,Z6,Z7,Z8,Zb,Zc,Zg,Zi];rw[hW];simp only[↓hcsExm,entTen,undef,hL,go_sem];try simp only[td,reduceCtorEq]
 obtain ⟨AR,h1,h2,h3,h4⟩:∃AR:Nat→List DArc,AR 1=[(0,1,L24,L24)]∧AR 2=[(0,1,L24,L24),(1,0,L24,L24)]∧AR 3=[(0,1,L24,L24),(1,0,L24,L24),(1,2,L24,L24)]∧AR 4=[(0,1,L24,L24),(1,0,L24,L24),(1,2,L24,L24),(2,1,L24,L24)]:=
  ⟨fun k=>[(0,1,L24,L24),(1,0,L24,L24),(1,2,L24,L24),(2,1,L24,L24)].take k,rfl,rfl,rfl,rfl⟩
 refine XW_first 1000 x25_0d [0,1,10] Nat (fun k=>[(4,.val Z1 (k:Int))]) (fun k=>[(4,.box 29 [.val Z1 3,.own 100,.cst (.slice none 0 0),.cst (.slice none 0 0),.cst (.slice none 0 0),.val Z1 400,.val Z1 30,.val Z1 600]),(100,.row 69 Z15 (AR k))])
  (fun k=>1≤k∧k≤4) (fun k=>4-k) 4 ?_ ?_
 ·dsimp only[x25_0,x25_0d,Z1,Z10,Z15,Z18,Za,Zb,Zc,Zf,Zg];simp only[↓hcsExm,entTen,undef,hL,go_sem];try simp only[td,reduceCtorEq]
  refine ⟨fun _=>⟨by omega,1,by omega,⟨by omega,by omega⟩,by decide,by rw[h1];rfl⟩,fun z=>absurd z (by decide)⟩
 ·intro k hk;dsimp only[x25_0,x25_0d,Z1,Z10,Z15,Z18,Za,Zb,Zc,Zf,Zg];rcases (by omega:k=1∨k=2∨k=3∨k=4) with rfl|rfl|rfl|rfl
  ·have w1:IntKind.i64.wrap (((1:Nat):Int)+1)=((2:Nat):Int):=by decide
   have hb:((AR 1).length+1)*64≤140737488355328:=by rw[h1];exact Nat.le_of_ble_eq_true rfl
   simp only[↓hcsExm,entTen,undef,hL,w1,hb,go_sem];try simp only[w1,hb,td,reduceCtorEq]
   refine ⟨fun _=>⟨by omega,2,by omega,⟨by omega,by omega⟩,rfl,by rw[h1,h2];rfl⟩,fun z=>absurd (by decide) z⟩
  ·have w1:IntKind.i64.wrap (((2:Nat):Int)+1)=((3:Nat):Int):=by decide
   have hb:((AR 2).length+1)*64≤140737488355328:=by rw[h2];exact Nat.le_of_ble_eq_true rfl
   simp only[↓hcsExm,entTen,undef,hL,w1,hb,go_sem];try simp only[w1,hb,td,reduceCtorEq]
   refine ⟨fun _=>⟨by omega,3,by omega,⟨by omega,by omega⟩,rfl,by rw[h2,h3];rfl⟩,fun z=>absurd (by decide) z⟩
  ·have w1:IntKind.i64.wrap (((3:Nat):Int)+1)=((4:Nat):Int):=by decide
   have hb:((AR 3).length+1)*64≤140737488355328:=by rw[h3];exact Nat.le_of_ble_eq_true rfl
   simp only[↓hcsExm,entTen,undef,hL,w1,hb,go_sem];try simp only[w1,hb,td,reduceCtorEq]
   refine ⟨fun _=>⟨by omega,4,by omega,⟨by omega,by omega⟩,rfl,by rw[h3,h4];rfl⟩,fun z=>absurd (by decide) z⟩
  ·have hc:¬((4:Nat):Int)<4:=by decide
   simp only[↓hcsExm,entTen,undef,hL,hc,go_sem];try simp only[hc,td,reduceCtorEq]
   rw[hE,h4,hA,hA,hA,hA];exact ⟨fun z=>absurd z (by decide),fun _=>rfl⟩
def entSmall23:Ent:=⟨7,.nil,.bool,false,none,fun _=>True,fun _=>true⟩
def hEx (W:DWorld) (S:List DStop):Ent:={ entExm with F:=fun _=>(W,S,()) }
def hMk (mk:DWorld→Int→List DStop→DPlan×Int):Ent:={ entMk with F:=fun x=>((mk x.1 x.2.1 x.2.2.1).1,(mk x.1 x.2.1 x.2.2.1).2,()) }
def hEn (en:DWorld→DPlan→Int×Int):Ent:={ entEnd with F:=fun x=>((en x.1 x.2.1).1,(en x.1 x.2.1).2,()) }
def hSu (su:DWorld→List DPlan→Int×Bool):Ent:={ entSSm with F:=fun x=>((su x.1 x.2.1).1,(su x.1 x.2.1).2,()) }
def hTr (tr:DWorld→List DPlan→DMove→List DPlan×Int):Ent:={ entSTy with F:=fun x=>((tr x.1 x.2.1 x.2.2.1).1,(tr x.1 x.2.1 x.2.2.1).2,()) }
def hIm (im:DWorld→List DPlan→List DPlan×List DMove×Int):Ent:={ entImp with F:=fun x=>((im x.1 x.2.1).1,(im x.1 x.2.1).2.1,(im x.1 x.2.1).2.2,()) }
def csSmall23 (W:DWorld) (S:List DStop) (mk:DWorld→Int→List DStop→DPlan×Int) (en:DWorld→DPlan→Int×Int) (su:DWorld→List DPlan→Int×Bool) (tr:DWorld→List DPlan→DMove→List DPlan×Int) (im:DWorld→List DPlan→List DPlan×List DMove×Int):List Ent:=[hEx W S,hMk mk,hEn en,hSu su,hTr tr,hIm im,entWld,entSMv]
theorem hcsSmall23 (W:DWorld) (S:List DStop) (mk:DWorld→Int→List DStop→DPlan×Int) (en:DWorld→DPlan→Int×Int) (su:DWorld→List DPlan→Int×Bool) (tr:DWorld→List DPlan→DMove→List DPlan×Int) (im:DWorld→List DPlan→List DPlan×List DMove×Int) (f:FuncId):findEnt (csSmall23 W S mk en su tr im) f=findEnt [hEx W S,hMk mk,hEn en,hSu su,hTr tr,hIm im,entWld,entSMv] f:=rfl
theorem small23_gen {W:DWorld} {S:List DStop} {mk:DWorld→Int→List DStop→DPlan×Int} {en:DWorld→DPlan→Int×Int} {su:DWorld→List DPlan→Int×Bool} {tr:DWorld→List DPlan→DMove→List DPlan×Int} {im:DWorld→List DPlan→List DPlan×List DMove×Int}
  (c1:Con Tryz.prog (hEx W S)) (c2:Con Tryz.prog (hMk mk)) (c3:Con Tryz.prog (hEn en)) (c4:Con Tryz.prog (hSu su)) (c5:Con Tryz.prog (hTr tr)) (c6:Con Tryz.prog (hIm im)) {P0 P1 T0 T1 U0 U1:DPlan}
  (a1:mk W 0 S=(P0,0)) (a2:mk W 1 []=(P1,0)) (a3:su W [P0,P1]=(40,true)) (a4:tr W [P0,P1] (0,0,1,0,0)=([T0,T1],0)) (a5:su W [T0,T1]=(30,true)) (a6:im W [P0,P1]=([U0,U1],[(0,0,0,1,2)],0)) (a7:su W [U0,U1]=(30,true)) (a8:en W T0=(20,0))
  (l0:S.length≤24) (l1:W.2.2.2.1.length≤10) (l2:T0.2.1.length≤24)
  (p1:∀p∈[P0,P1],p.2.1.length≤24∧p.2.2.1.length≤1000000∧p.2.2.2.length≤1000000) (p2:∀p∈[T0,T1],p.2.1.length≤24) (p3:∀p∈[U0,U1],p.2.1.length≤24):Con Tryz.prog entSmall23:=by
 have p0:∀p∈[P0,P1],p.2.1.length≤24:=fun p hp=>(p1 p hp).1
 obtain ⟨PP,hPP⟩:∃PP,[P0,P1]=PP:=⟨_,rfl⟩
 have hPl:PP.length≤1000:=by rw[←hPP];exact Nat.le_of_ble_eq_true rfl
 rw[hPP] at a3 a4 a6 p1 p0
 obtain ⟨TT,hTT⟩:∃PP,[T0,T1]=PP:=⟨_,rfl⟩
 have hT2:TT.length=2:=by rw[←hTT];rfl
 have hT3:(TT.length:Int)=2:=by rw[hT2];rfl
 have hT0:TT.getD 0 (0,[],[],[])=T0:=by rw[←hTT];rfl
 rw[hTT] at a4 a5 p2
 obtain ⟨UU,hUU⟩:∃PP,[U0,U1]=PP:=⟨_,rfl⟩
 have hUl:UU.length≤1000:=by rw[←hUU];exact Nat.le_of_ble_eq_true rfl
 rw[hUU] at a6 a7 p3
 have hTl:TT.length≤1000:=by omega
 refine con_isM (C:=csSmall23 W S mk en su tr im) z7 (by kernel_rfl) (by simp[csSmall23,c1,c2,c3,c4,c5,c6,conWld,conSMv]) fun x _ hf=>?_
 dsimp only[entSmall23,z7,Z1,Z13,Z21,Z24,Za,Zb,Zc,Zd,Ze,Zf,Zg,Zi];simp only[↓hcsSmall23,hEx,hMk,hEn,hSu,hTr,hIm,entExm,entMk,entEnd,entSSm,entSTy,entImp,entWld,entSMv,undef,a1,a2,l0,hPP,go_sem]
 try simp only[a1,a2,l0,hPP,td,reduceCtorEq]
 refine XW_top (XW_frz 8 31 rfl rfl (XW_of ?_))
 dsimp only
 simp only[↓hcsSmall23,hEx,hMk,hEn,hSu,hTr,hIm,entExm,entMk,entEnd,entSSm,entSTy,entImp,entWld,entSMv,undef,a3,a4,a5,a6,a7,a8,l1,l2,hPl,hT2,hT3,hT0,hTl,hUl,go_sem]
 try simp only[a3,a4,a5,a6,a7,a8,l1,l2,hPl,hT2,hT3,hT0,hTl,hUl,td,reduceCtorEq]
 exact ⟨p0,p1,p2,p1,p3,fun z=>z rfl,fun _=>by omega⟩
theorem conSmall23:Con Tryz.prog entSmall23:=small23_gen (W:=exW) (S:=exS0) (mk:=makeF) (en:=endP) (su:=sumF) (tr:=tryF) (im:=improveF) conExm conMk conEnd conSSm conSTy conImp ex1 ex2 ex3 ex4 ex5 ex6 ex7 ex8
 (Nat.le_of_ble_eq_true rfl) (Nat.le_of_ble_eq_true rfl) (Nat.le_of_ble_eq_true rfl) (by simp) (by simp) (by simp)
end T
end Go.Proofs.YtcnfmabhghhdnaaGreat
end
