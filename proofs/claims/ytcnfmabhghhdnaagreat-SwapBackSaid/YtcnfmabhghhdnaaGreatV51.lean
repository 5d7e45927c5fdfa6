/- Parts of the proof (put together by a program): definitions, lemmas, and the law; no condition. -/
import Derived.Test.YtcnfmabhghhdnaaGreatV46
import Derived.Test.YtcnfmabhghhdnaaGreatV48
import Derived.Test.YtcnfmabhghhdnaaGreatV50
import Derived.Test.YtcnfmabhghhdnaaGreatV6
set_option linter.unusedVariables false
set_option linter.unusedSimpArgs false
open Nat renaming reduceAdd → YA, reduceSub → YS, reduceMul → YM, reduceLT → YL, reduceLeDiff → YE, reduceEqDiff → YD, reduceBEq → YB, reduceBNe → YN
open List renaming reduceReplicate → YR
section
namespace Go.Proofs.YtcnfmabhghhdnaaGreat
open Go.RowKit Go.IntWalk
namespace T
def entExm:Ent:=⟨25,.nil,.cons (.st (.cons (.int .i64) (.cons (.sl (.st (.cons (.int .i64) (.cons (.int .i64) (.cons (.sl (.int .i64)) (.sl (.int .i64))))))) (.cons (.sl (.st (.cons (.int .i64) (.cons (.int .i64) (.cons (.int .i64) (.cons (.int .i64) (.cons (.int .i64) (.cons (.int .i64) (.cons (.int .i64) (.cons (.int .i64) (.int .i64))))))))))) (.cons (.sl (.st (.cons (.int .i64) (.cons (.int .i64) (.cons (.int .i64) (.cons (.int .i64) (.cons (.int .i64) (.cons (.int .i64) (.cons (.int .i64) (.cons (.int .i64) (.cons (.int .i64) (.int .i64)))))))))))) (.cons (.sl (.st (.cons (.int .i64) (.cons (.int .i64) .bool)))) (.st (.cons (.int .i64) (.cons (.int .i64) (.int .i64)))))))))) (.cons (.sl (.st (.cons (.int .i64) .bool))) .nil),true,none,fun _=>True,fun _=>(exW,exS0,())⟩
def csExm:List Ent:=[entTen] theorem hcsExm (f:FuncId):findEnt csExm f=findEnt [entTen] f:=rfl
theorem conExm:Con Tryz.prog entExm:=by
 refine con_is (C:=csExm) x25 (by kernel_rfl) (by simp [csExm,conTen]) fun x hx hf=>?_
 obtain ⟨⟩:=x
 obtain ⟨W,hW⟩:∃ W:DWorld,exW=W:=⟨_,rfl⟩
 have hE:W=(3,[arcE 0 1,arcE 1 0,arcE 1 2,arcE 2 1],[(0,0,0,500,4,0,0,0,0),(0,2,0,500,4,0,0,0,0)],[(0,2,1,0,400,400,100,1,0,0),(1,1,2,0,400,400,100,1,0,0)],[],400,30,600):=hW.symm
 obtain ⟨L24,hL⟩:∃ L,List.replicate 24 (10:Int)=L:=⟨_,rfl⟩
 have hA:∀ a b,arcE a b=(a,b,L24,L24):=fun a b=>by unfold arcE;rw [hL]
 dsimp only [entExm,x25,Z1,Z10,Z19,Z23,Z24,Z5,Z6,Z7,Z8,Zb,Zc,Zg,Zi]
 rw [hW]
 simp only [↓hcsExm,entTen,undef,hL,go_sem,YA,YS,YM,YL,YE,YD,YB,YN,YR,reduceIte,reduceCtorEq,↓reduceIte]
 try simp only [td,reduceCtorEq]
 obtain ⟨AR,h1,h2,h3,h4⟩:∃ AR:Nat→List DArc,AR 1=[(0,1,L24,L24)]∧AR 2=[(0,1,L24,L24),(1,0,L24,L24)]∧AR 3=[(0,1,L24,L24),(1,0,L24,L24),(1,2,L24,L24)]∧AR 4=[(0,1,L24,L24),(1,0,L24,L24),(1,2,L24,L24),(2,1,L24,L24)] :=
  ⟨fun k=>[(0,1,L24,L24),(1,0,L24,L24),(1,2,L24,L24),(2,1,L24,L24)].take k,rfl,rfl,rfl,rfl⟩
 refine XW_first 1000 x25_0d [0,1,10] Nat (fun k=>[(4,.val (.int .i64) (k:Int))]) (fun k=>[(4,.box 29 [.val (.int .i64) 3,.own 100,.cst (.slice none 0 0),.cst (.slice none 0 0),.cst (.slice none 0 0),.val (.int .i64) 400,.val (.int .i64) 30,.val (.int .i64) 600]),(100,.row 69 (.st (.cons (.int .i64) (.cons (.int .i64) (.cons (.sl (.int .i64)) (.sl (.int .i64)))))) (AR k))])
  (fun k=>1≤k∧k≤4) (fun k=>4 - k) 4 ?_ ?_
 ·dsimp only [x25_0,x25_0d,Z1,Z10,Z15,Z18,Za,Zb,Zc,Zf]
  simp only [↓hcsExm,entTen,undef,hL,go_sem,YA,YS,YM,YL,YE,YD,YB,YN,YR,reduceIte,reduceCtorEq,↓reduceIte]
  try simp only [td,reduceCtorEq]
  refine ⟨fun _=>⟨by omega,1,by omega,⟨by omega,by omega⟩,by decide,by rw [h1];rfl⟩,fun z=>absurd z (by decide)⟩
 ·intro k hk
  dsimp only [x25_0,x25_0d,Z1,Z10,Z15,Z18,Za,Zb,Zc,Zf]
  rcases (by omega:k=1∨k=2∨k=3∨k=4) with rfl | rfl | rfl | rfl
  ·have w1:IntKind.i64.wrap (((1:Nat):Int)+1)=((2:Nat):Int):=by decide
   have hb:((AR 1).length+1) * 64≤140737488355328:=by rw [h1];exact Nat.le_of_ble_eq_true rfl
   simp only [↓hcsExm,entTen,undef,hL,w1,hb,go_sem,YA,YS,YM,YL,YE,YD,YB,YN,YR,reduceIte,reduceCtorEq,↓reduceIte]
   try simp only [w1,hb,td,reduceCtorEq]
   refine ⟨fun _=>⟨by omega,2,by omega,⟨by omega,by omega⟩,rfl,by rw [h1,h2];rfl⟩,fun z=>absurd (by decide) z⟩
  ·have w1:IntKind.i64.wrap (((2:Nat):Int)+1)=((3:Nat):Int):=by decide
   have hb:((AR 2).length+1) * 64≤140737488355328:=by rw [h2];exact Nat.le_of_ble_eq_true rfl
   simp only [↓hcsExm,entTen,undef,hL,w1,hb,go_sem,YA,YS,YM,YL,YE,YD,YB,YN,YR,reduceIte,reduceCtorEq,↓reduceIte]
   try simp only [w1,hb,td,reduceCtorEq]
   refine ⟨fun _=>⟨by omega,3,by omega,⟨by omega,by omega⟩,rfl,by rw [h2,h3];rfl⟩,fun z=>absurd (by decide) z⟩
  ·have w1:IntKind.i64.wrap (((3:Nat):Int)+1)=((4:Nat):Int):=by decide
   have hb:((AR 3).length+1) * 64≤140737488355328:=by rw [h3];exact Nat.le_of_ble_eq_true rfl
   simp only [↓hcsExm,entTen,undef,hL,w1,hb,go_sem,YA,YS,YM,YL,YE,YD,YB,YN,YR,reduceIte,reduceCtorEq,↓reduceIte]
   try simp only [w1,hb,td,reduceCtorEq]
   refine ⟨fun _=>⟨by omega,4,by omega,⟨by omega,by omega⟩,rfl,by rw [h3,h4];rfl⟩,fun z=>absurd (by decide) z⟩
  ·have hc:¬ ((4:Nat):Int) < 4:=by decide
   simp only [↓hcsExm,entTen,undef,hL,hc,go_sem,YA,YS,YM,YL,YE,YD,YB,YN,YR,reduceIte,reduceCtorEq,↓reduceIte]
   try simp only [hc,td,reduceCtorEq]
   rw [hE,h4,hA,hA,hA,hA]
   exact ⟨fun z=>absurd z (by decide),fun _=>rfl⟩
end T
end Go.Proofs.YtcnfmabhghhdnaaGreat
end
section
namespace Go.Proofs.YtcnfmabhghhdnaaGreat
open Go.RowKit Go.IntWalk
namespace T
def entSmall23:Ent:=⟨7,.nil,.bool,false,none,fun _=>True,fun _=>true⟩
def hEx (W:DWorld) (S:List DStop):Ent:={ entExm with F:=fun _=>(W,S,()) }
def hMk (mk:DWorld→Int→List DStop→DPlan × Int):Ent:={ entMk with F:=fun x=>((mk x.1 x.2.1 x.2.2.1).1,(mk x.1 x.2.1 x.2.2.1).2,()) }
def hEn (en:DWorld→DPlan→Int × Int):Ent:={ entEnd with F:=fun x=>((en x.1 x.2.1).1,(en x.1 x.2.1).2,()) }
def hSu (su:DWorld→List DPlan→Int × Bool):Ent:={ entSSm with F:=fun x=>((su x.1 x.2.1).1,(su x.1 x.2.1).2,()) }
def hTr (tr:DWorld→List DPlan→DMove→List DPlan × Int):Ent:={ entSTy with F:=fun x=>((tr x.1 x.2.1 x.2.2.1).1,(tr x.1 x.2.1 x.2.2.1).2,()) }
def hIm (im:DWorld→List DPlan→List DPlan × List DMove × Int):Ent:={ entImp with F:=fun x=>((im x.1 x.2.1).1,(im x.1 x.2.1).2.1,(im x.1 x.2.1).2.2,()) }
def csSmall23 (W:DWorld) (S:List DStop) (mk:DWorld→Int→List DStop→DPlan × Int) (en:DWorld→DPlan→Int × Int) (su:DWorld→List DPlan→Int × Bool) (tr:DWorld→List DPlan→DMove→List DPlan × Int) (im:DWorld→List DPlan→List DPlan × List DMove × Int):List Ent:=[hEx W S,hMk mk,hEn en,hSu su,hTr tr,hIm im,entWld,entSMv]
theorem hcsSmall23 (W:DWorld) (S:List DStop) (mk:DWorld→Int→List DStop→DPlan × Int) (en:DWorld→DPlan→Int × Int) (su:DWorld→List DPlan→Int × Bool) (tr:DWorld→List DPlan→DMove→List DPlan × Int) (im:DWorld→List DPlan→List DPlan × List DMove × Int) (f:FuncId):findEnt (csSmall23 W S mk en su tr im) f=findEnt [hEx W S,hMk mk,hEn en,hSu su,hTr tr,hIm im,entWld,entSMv] f:=rfl
theorem small23_gen {W:DWorld} {S:List DStop} {mk:DWorld→Int→List DStop→DPlan × Int} {en:DWorld→DPlan→Int × Int} {su:DWorld→List DPlan→Int × Bool} {tr:DWorld→List DPlan→DMove→List DPlan × Int} {im:DWorld→List DPlan→List DPlan × List DMove × Int}
  (c1:Con Tryz.prog (hEx W S)) (c2:Con Tryz.prog (hMk mk)) (c3:Con Tryz.prog (hEn en)) (c4:Con Tryz.prog (hSu su)) (c5:Con Tryz.prog (hTr tr)) (c6:Con Tryz.prog (hIm im)) {P0 P1 T0 T1 U0 U1:DPlan}
  (a1:mk W 0 S=(P0,0)) (a2:mk W 1 []=(P1,0)) (a3:su W [P0,P1]=(40,true)) (a4:tr W [P0,P1] (0,0,1,0,0)=([T0,T1],0)) (a5:su W [T0,T1]=(30,true)) (a6:im W [P0,P1]=([U0,U1],[(0,0,0,1,2)],0)) (a7:su W [U0,U1]=(30,true)) (a8:en W T0=(20,0))
  (l0:S.length≤24) (l1:W.2.2.2.1.length≤10) (l2:T0.2.1.length≤24)
  (p1:∀ p ∈ [P0,P1],p.2.1.length≤24∧p.2.2.1.length≤1000000∧p.2.2.2.length≤1000000) (p2:∀ p ∈ [T0,T1],p.2.1.length≤24) (p3:∀ p ∈ [U0,U1],p.2.1.length≤24):Con Tryz.prog entSmall23:=by
 have p0:∀ p ∈ [P0,P1],p.2.1.length≤24:=fun p hp=>(p1 p hp).1
 obtain ⟨PP,hPP⟩:∃ PP,[P0,P1]=PP:=⟨_,rfl⟩
 have hPl:PP.length≤1000:=by rw [← hPP];exact Nat.le_of_ble_eq_true rfl
 rw [hPP] at a3 a4 a6 p1 p0
 obtain ⟨TT,hTT⟩:∃ PP,[T0,T1]=PP:=⟨_,rfl⟩
 have hT2:TT.length=2:=by rw [← hTT];rfl
 have hT3:(TT.length:Int)=2:=by rw [hT2];rfl
 have hT0:TT.getD 0 (0,[],[],[])=T0:=by rw [← hTT];rfl
 rw [hTT] at a4 a5 p2
 obtain ⟨UU,hUU⟩:∃ PP,[U0,U1]=PP:=⟨_,rfl⟩
 have hUl:UU.length≤1000:=by rw [← hUU];exact Nat.le_of_ble_eq_true rfl
 rw [hUU] at a6 a7 p3
 have hTl:TT.length≤1000:=by omega
 refine con_isM (C:=csSmall23 W S mk en su tr im) z7 (by kernel_rfl) (by simp [csSmall23,c1,c2,c3,c4,c5,c6,conWld,conSMv]) fun x _ hf=>?_
 dsimp only [entSmall23,z7,Z1,Z13,Z21,Z24,Za,Zb,Zc,Zd,Ze,Zf,Zg,Zi];simp only [↓hcsSmall23,hEx,hMk,hEn,hSu,hTr,hIm,entExm,entMk,entEnd,entSSm,entSTy,entImp,entWld,entSMv,undef,a1,a2,l0,hPP,go_sem,YA,YS,YM,YL,YE,YD,YB,YN,YR,reduceIte,reduceCtorEq,↓reduceIte]
 try simp only [a1,a2,l0,hPP,td,reduceCtorEq]
 refine XW_top (XW_frz 8 31 rfl rfl (XW_of ?_))
 dsimp only
 simp only [↓hcsSmall23,hEx,hMk,hEn,hSu,hTr,hIm,entExm,entMk,entEnd,entSSm,entSTy,entImp,entWld,entSMv,undef,a3,a4,a5,a6,a7,a8,l1,l2,hPl,hT2,hT3,hT0,hTl,hUl,go_sem,YA,YS,YM,YL,YE,YD,YB,YN,YR,reduceIte,reduceCtorEq,↓reduceIte]
 try simp only [a3,a4,a5,a6,a7,a8,l1,l2,hPl,hT2,hT3,hT0,hTl,hUl,td,reduceCtorEq]
 exact ⟨p0,p1,p2,p1,p3,fun z=>z rfl,fun _=>by omega⟩
theorem conSmall23:Con Tryz.prog entSmall23:=small23_gen (W:=exW) (S:=exS0) (mk:=makeF) (en:=endP) (su:=sumF) (tr:=tryF) (im:=improveF) conExm conMk conEnd conSSm conSTy conImp ex1 ex2 ex3 ex4 ex5 ex6 ex7 ex8
 (Nat.le_of_ble_eq_true rfl) (Nat.le_of_ble_eq_true rfl) (Nat.le_of_ble_eq_true rfl) (by simp) (by simp) (by simp)
end T
end Go.Proofs.YtcnfmabhghhdnaaGreat
end
