/- Parts of the proof (put together by a program): definitions, lemmas, and the law; no condition. -/
import Derived.Test.YtjlofnjlhgbmoaaGreatR35
import Derived.Test.YtjlofnjlhgbmoaaGreatR44
import Derived.Test.YtjlofnjlhgbmoaaGreatR6
set_option linter.unusedVariables false
set_option linter.unusedSimpArgs false
open Nat renaming reduceAdd → YA, reduceSub → YS, reduceMul → YM, reduceLT → YL, reduceLeDiff → YE, reduceEqDiff → YD, reduceBEq → YB, reduceBNe → YN
open List renaming reduceReplicate → YR
section
namespace Go.Proofs.YtjlofnjlhgbmoaaGreat
open Go.RowKit Go.IntWalk
namespace T
def entEqSt:Ent:=⟨83,.cons (.sl (.st (.cons (.int .i64) .bool))) (.cons (.sl (.st (.cons (.int .i64) .bool))) .nil),.bool,false,none,fun _=>True,fun x=>decide ((x.1:List DStop)=x.2.1)⟩
def csEqSt:List Ent:=[] theorem hcsEqSt (f:FuncId):findEnt csEqSt f=findEnt [] f:=rfl
theorem conEqSt:Con Tryz.prog entEqSt:=by
 refine con_is (C:=csEqSt) x83 (by kernel_rfl) (by simp [csEqSt]) fun x hx hf=>?_
 obtain ⟨(a:List DStop),(b:List DStop),_⟩:=x
 have hl:a.length≤9223372036854775807:=hf.1.1
 by_cases hab:a.length=b.length
 ·have habi:(a.length:Int)=(b.length:Int):=by omega
  dsimp only [entEqSt,x83,Za,Zb,Zg];simp only [↓hcsEqSt,habi,go_sem,YA,YS,YM,YL,YE,YD,YB,YN,YR,reduceIte,reduceCtorEq,↓reduceIte]
  try simp only [habi,td,reduceCtorEq]
  refine XW_for 1000 x83_0d [] Nat (fun j=>[(13,.val (.int .i64) (j:Int))]) (fun _=>[]) (fun j=>j≤a.length∧∀ i,i < j→a.getD i dStop=b.getD i dStop) (fun j=>a.length - j) 0 ?_ ?_ ?_
  ·dsimp only [x83_0d];simp only [go_sem,YA,YS,YM,YL,YE,YD,YB,YN,YR,reduceIte,reduceCtorEq,↓reduceIte];try trivial
  ·exact ⟨Nat.zero_le _,fun i hi=>by omega⟩
  rintro j ⟨hj,hn⟩
  by_cases hja:j < a.length
  ·have hjb:j < b.length:=by omega
   have w2:IntKind.i64.wrap ((j:Int)+1)=((j+1:Nat):Int):=i64_in _ (by omega)
   have hne:a.getD j dStop≠b.getD j dStop→decide (a=b)=false:=fun h=>decide_eq_false fun z=>h (by rw [z])
   have hnx:a.getD j dStop=b.getD j dStop→∀ i,i < j+1→a.getD i dStop=b.getD i dStop:=fun h i hi=>by
    rcases Nat.lt_or_ge i j with q | q
    ·exact hn i q
    ·rw [show i=j by omega];exact h
   generalize hA:a.getD j dStop=u at hne hnx
   generalize hB:b.getD j dStop=v at hne hnx
   obtain ⟨u1,u2⟩:=u
   obtain ⟨v1,v2⟩:=v
   have huv:((u1,u2)=(v1,v2)) ↔ u1=v1∧u2=v2:=Prod.mk.injEq _ _ _ _ ▸ Iff.rfl
   dsimp only [x83_0,x83_0d,Z8,Za,Zf];simp only [↓hcsEqSt,hja,hjb,w2,hA,hB,habi,go_sem,YA,YS,YM,YL,YE,YD,YB,YN,YR,reduceIte,reduceCtorEq,↓reduceIte]
   try simp only [hja,hjb,w2,hA,hB,habi,td,reduceCtorEq]
   exact ⟨fun h=>(hne (fun q=>h (huv.1 q).1 (huv.1 q).2)).symm,fun h=>⟨j+1,by omega,⟨by omega,hnx (huv.2 h)⟩,rfl⟩⟩
  ·have hjb:¬ j < b.length:=by omega
   have heq:decide (a=b)=true:=decide_eq_true (ext_getD dStop hab fun i hi=>hn i (by omega))
   dsimp only [x83_0,x83_0d,Z8,Za,Zf];simp only [↓hcsEqSt,hja,hjb,habi,heq,go_sem,YA,YS,YM,YL,YE,YD,YB,YN,YR,reduceIte,reduceCtorEq,↓reduceIte]
   try simp only [hja,hjb,habi,heq,td,reduceCtorEq]
 ·have habi:¬ (a.length:Int)=(b.length:Int):=by omega
  have hne:decide (a=b)=false:=decide_eq_false fun z=>hab (by rw [z])
  dsimp only [entEqSt,x83,Za,Zb,Zg];simp only [↓hcsEqSt,hab,habi,hne,go_sem,YA,YS,YM,YL,YE,YD,YB,YN,YR,reduceIte,reduceCtorEq,↓reduceIte]
  try simp only [hab,habi,hne,td,reduceCtorEq]
def entEqIn:Ent:=⟨84,.cons (.sl (.int .i64)) (.cons (.sl (.int .i64)) .nil),.bool,false,none,fun _=>True,fun x=>decide ((x.1:List Int)=x.2.1)⟩
def csEqIn:List Ent:=[] theorem hcsEqIn (f:FuncId):findEnt csEqIn f=findEnt [] f:=rfl
theorem conEqIn:Con Tryz.prog entEqIn:=by
 refine con_is (C:=csEqIn) x84 (by kernel_rfl) (by simp [csEqIn]) fun x hx hf=>?_
 obtain ⟨(a:List Int),(b:List Int),_⟩:=x
 have hl:a.length≤9223372036854775807:=hf.1.1
 by_cases hab:a.length=b.length
 ·have habi:(a.length:Int)=(b.length:Int):=by omega
  dsimp only [entEqIn,x84,Za,Zb,Zg];simp only [↓hcsEqIn,habi,go_sem,YA,YS,YM,YL,YE,YD,YB,YN,YR,reduceIte,reduceCtorEq,↓reduceIte]
  try simp only [habi,td,reduceCtorEq]
  refine XW_for 1000 x84_0d [] Nat (fun j=>[(13,.val (.int .i64) (j:Int))]) (fun _=>[]) (fun j=>j≤a.length∧∀ i,i < j→a.getD i 0=b.getD i 0) (fun j=>a.length - j) 0 ?_ ?_ ?_
  ·dsimp only [x84_0d];simp only [go_sem,YA,YS,YM,YL,YE,YD,YB,YN,YR,reduceIte,reduceCtorEq,↓reduceIte];try trivial
  ·exact ⟨Nat.zero_le _,fun i hi=>by omega⟩
  rintro j ⟨hj,hn⟩
  by_cases hja:j < a.length
  ·have hjb:j < b.length:=by omega
   have w2:IntKind.i64.wrap ((j:Int)+1)=((j+1:Nat):Int):=i64_in _ (by omega)
   have hne:a.getD j 0≠b.getD j 0→decide (a=b)=false:=fun h=>decide_eq_false fun z=>h (by rw [z])
   have hnx:a.getD j 0=b.getD j 0→∀ i,i < j+1→a.getD i 0=b.getD i 0:=fun h i hi=>by
    rcases Nat.lt_or_ge i j with q | q
    ·exact hn i q
    ·rw [show i=j by omega];exact h
   generalize hA:a.getD j 0=u at hne hnx
   generalize hB:b.getD j 0=v at hne hnx
   dsimp only [x84_0,x84_0d,Z1,Za,Zf];simp only [↓hcsEqIn,hja,hjb,w2,hA,hB,habi,go_sem,YA,YS,YM,YL,YE,YD,YB,YN,YR,reduceIte,reduceCtorEq,↓reduceIte]
   try simp only [hja,hjb,w2,hA,hB,habi,td,reduceCtorEq]
   exact ⟨fun h=>(hne h).symm,fun h=>⟨j+1,by omega,⟨by omega,hnx h⟩,rfl⟩⟩
  ·have hjb:¬ j < b.length:=by omega
   have heq:decide (a=b)=true:=decide_eq_true (ext_getD 0 hab fun i hi=>hn i (by omega))
   dsimp only [x84_0,x84_0d,Z1,Za,Zf];simp only [↓hcsEqIn,hja,hjb,habi,heq,go_sem,YA,YS,YM,YL,YE,YD,YB,YN,YR,reduceIte,reduceCtorEq,↓reduceIte]
   try simp only [hja,hjb,habi,heq,td,reduceCtorEq]
 ·have habi:¬ (a.length:Int)=(b.length:Int):=by omega
  have hne:decide (a=b)=false:=decide_eq_false fun z=>hab (by rw [z])
  dsimp only [entEqIn,x84,Za,Zb,Zg];simp only [↓hcsEqIn,hab,habi,hne,go_sem,YA,YS,YM,YL,YE,YD,YB,YN,YR,reduceIte,reduceCtorEq,↓reduceIte]
  try simp only [hab,habi,hne,td,reduceCtorEq]
def entEqPl:Ent:=⟨40,.cons (.sl (.st (.cons (.int .i64) (.cons (.int .i64) (.cons (.int .i64) (.int .i64)))))) (.cons (.sl (.st (.cons (.int .i64) (.cons (.int .i64) (.cons (.int .i64) (.int .i64)))))) .nil),.bool,false,none,fun _=>True,fun x=>decide ((x.1:List DPlace)=x.2.1)⟩
def csEqPl:List Ent:=[] theorem hcsEqPl (f:FuncId):findEnt csEqPl f=findEnt [] f:=rfl
theorem conEqPl:Con Tryz.prog entEqPl:=by
 refine con_is (C:=csEqPl) x40 (by kernel_rfl) (by simp [csEqPl]) fun x hx hf=>?_
 obtain ⟨(a:List DPlace),(b:List DPlace),_⟩:=x
 have hl:a.length≤9223372036854775807:=hf.1.1
 by_cases hab:a.length=b.length
 ·have habi:(a.length:Int)=(b.length:Int):=by omega
  dsimp only [entEqPl,x40,Za,Zb,Zg];simp only [↓hcsEqPl,habi,go_sem,YA,YS,YM,YL,YE,YD,YB,YN,YR,reduceIte,reduceCtorEq,↓reduceIte]
  try simp only [habi,td,reduceCtorEq]
  refine XW_for 1000 x40_0d [] Nat (fun j=>[(13,.val (.int .i64) (j:Int))]) (fun _=>[]) (fun j=>j≤a.length∧∀ i,i < j→a.getD i dPlace=b.getD i dPlace) (fun j=>a.length - j) 0 ?_ ?_ ?_
  ·dsimp only [x40_0d];simp only [go_sem,YA,YS,YM,YL,YE,YD,YB,YN,YR,reduceIte,reduceCtorEq,↓reduceIte];try trivial
  ·exact ⟨Nat.zero_le _,fun i hi=>by omega⟩
  rintro j ⟨hj,hn⟩
  by_cases hja:j < a.length
  ·have hjb:j < b.length:=by omega
   have w2:IntKind.i64.wrap ((j:Int)+1)=((j+1:Nat):Int):=i64_in _ (by omega)
   have hne:a.getD j dPlace≠b.getD j dPlace→decide (a=b)=false:=fun h=>decide_eq_false fun z=>h (by rw [z])
   have hnx:a.getD j dPlace=b.getD j dPlace→∀ i,i < j+1→a.getD i dPlace=b.getD i dPlace:=fun h i hi=>by
    rcases Nat.lt_or_ge i j with q | q
    ·exact hn i q
    ·rw [show i=j by omega];exact h
   generalize hA:a.getD j dPlace=u at hne hnx
   generalize hB:b.getD j dPlace=v at hne hnx
   obtain ⟨u1,u2,u3,u4⟩:=u
   obtain ⟨v1,v2,v3,v4⟩:=v
   have huv:((u1,u2,u3,u4)=(v1,v2,v3,v4)) ↔ u1=v1∧u2=v2∧u3=v3∧u4=v4:=by simp
   dsimp only [x40_0,x40_0d,Z9,Za,Zf];simp only [↓hcsEqPl,hja,hjb,w2,hA,hB,habi,go_sem,YA,YS,YM,YL,YE,YD,YB,YN,YR,reduceIte,reduceCtorEq,↓reduceIte]
   try simp only [hja,hjb,w2,hA,hB,habi,td,reduceCtorEq]
   exact ⟨fun h=>(hne (fun q=>h (huv.1 q).1 (huv.1 q).2.1 (huv.1 q).2.2.1 (huv.1 q).2.2.2)).symm,fun h=>⟨j+1,by omega,⟨by omega,hnx (huv.2 h)⟩,rfl⟩⟩
  ·have hjb:¬ j < b.length:=by omega
   have heq:decide (a=b)=true:=decide_eq_true (ext_getD dPlace hab fun i hi=>hn i (by omega))
   dsimp only [x40_0,x40_0d,Z9,Za,Zf];simp only [↓hcsEqPl,hja,hjb,habi,heq,go_sem,YA,YS,YM,YL,YE,YD,YB,YN,YR,reduceIte,reduceCtorEq,↓reduceIte]
   try simp only [hja,hjb,habi,heq,td,reduceCtorEq]
 ·have habi:¬ (a.length:Int)=(b.length:Int):=by omega
  have hne:decide (a=b)=false:=decide_eq_false fun z=>hab (by rw [z])
  dsimp only [entEqPl,x40,Za,Zb,Zg];simp only [↓hcsEqPl,hab,habi,hne,go_sem,YA,YS,YM,YL,YE,YD,YB,YN,YR,reduceIte,reduceCtorEq,↓reduceIte]
  try simp only [hab,habi,hne,td,reduceCtorEq]
def entIsm:Ent:=⟨39,.cons (.st (.cons (.int .i64) (.cons (.sl (.st (.cons (.int .i64) .bool))) (.cons (.sl (.st (.cons (.int .i64) (.int .i64)))) (.sl (.int .i64)))))) (.cons (.st (.cons (.int .i64) (.cons (.sl (.st (.cons (.int .i64) .bool))) (.cons (.sl (.st (.cons (.int .i64) (.int .i64)))) (.sl (.int .i64)))))) .nil),.bool,false,none,fun _=>True,fun x=>decide ((x.1:DPlan)=x.2.1)⟩
def csIsm:List Ent:=[entEqSt,entEqIn,entEqLg] theorem hcsIsm (f:FuncId):findEnt csIsm f=findEnt [entEqSt,entEqIn,entEqLg] f:=rfl
theorem conIsm:Con Tryz.prog entIsm:=by
 refine con_is (C:=csIsm) x39 (by kernel_rfl) (by simp [csIsm,conEqSt,conEqIn,conEqLg]) fun x hx hf=>?_
 obtain ⟨⟨(a1:Int),(a2:List DStop),(a3:List DLeg),(a4:List Int)⟩,⟨(b1:Int),(b2:List DStop),(b3:List DLeg),(b4:List Int)⟩,_⟩:=x
 dsimp only [entIsm,x39,Z1,Z11,Z19,Z3,Za,Zb,Zc,Ze];simp only [↓hcsIsm,entEqSt,entEqIn,entEqLg,undef,go_sem,YA,YS,YM,YL,YE,YD,YB,YN,YR,reduceIte,reduceCtorEq,↓reduceIte]
 try simp only [td,reduceCtorEq]
 rw [Bool.eq_iff_iff]
 simp [and_assoc]
def entICk:Ent:=⟨19,.cons (.st (.cons (.int .i64) (.cons (.sl (.st (.cons (.int .i64) (.cons (.int .i64) (.cons (.sl (.int .i64)) (.sl (.int .i64))))))) (.cons (.sl (.st (.cons (.int .i64) (.cons (.int .i64) (.cons (.int .i64) (.cons (.int .i64) (.cons (.int .i64) (.cons (.int .i64) (.cons (.int .i64) (.cons (.int .i64) (.int .i64))))))))))) (.cons (.sl (.st (.cons (.int .i64) (.cons (.int .i64) (.cons (.int .i64) (.cons (.int .i64) (.cons (.int .i64) (.cons (.int .i64) (.cons (.int .i64) (.cons (.int .i64) (.cons (.int .i64) (.int .i64)))))))))))) (.cons (.sl (.st (.cons (.int .i64) (.cons (.int .i64) .bool)))) (.st (.cons (.int .i64) (.cons (.int .i64) (.int .i64)))))))))) (.cons (.st (.cons (.int .i64) (.cons (.sl (.st (.cons (.int .i64) .bool))) (.cons (.sl (.st (.cons (.int .i64) (.int .i64)))) (.sl (.int .i64)))))) (.cons (.int .i64) (.cons (.st (.cons (.int .i64) (.cons (.sl (.st (.cons (.int .i64) .bool))) (.cons (.sl (.st (.cons (.int .i64) (.int .i64)))) (.sl (.int .i64)))))) (.cons (.sl (.st (.cons (.int .i64) (.cons (.int .i64) (.cons (.int .i64) (.int .i64)))))) .nil)))),(.int .i64),false,none,fun x=>List.length (α:=DStop) (x.2.1:DPlan).2.1≤20,fun x=>checkI x.1 x.2.1 x.2.2.1 x.2.2.2.1 x.2.2.2.2.1⟩
def csICk:List Ent:=[entBst,entIsm,entEqPl] theorem hcsICk (f:FuncId):findEnt csICk f=findEnt [entBst,entIsm,entEqPl] f:=rfl
theorem conICk:Con Tryz.prog entICk:=by
 refine con_is (C:=csICk) x19 (by kernel_rfl) (by simp [csICk,conBst,conIsm,conEqPl]) fun x hx hf=>?_
 obtain ⟨⟨(N:Int),(A:List DArc),(C:List DCar),(Q:List DReq),(R:List DPair),(S1:Int),(S2:Int),(S3:Int)⟩,⟨(c:Int),(ss:List DStop),(L:List DLeg),(G:List Int)⟩,(r:Int),⟨(g1:Int),(g2:List DStop),(g3:List DLeg),(g4:List Int)⟩,(l:List DPlace),_⟩:=x
 have hl:ss.length≤20:=hx
 have hF:checkI (N,A,C,Q,R,S1,S2,S3) (c,ss,L,G) r (g1,g2,g3,g4) l=if (bestF (N,A,C,Q,R,S1,S2,S3) (c,ss,L,G) r).2.2.2.2≠0∧(bestF (N,A,C,Q,R,S1,S2,S3) (c,ss,L,G) r).2.2.2.2≠4 then (bestF (N,A,C,Q,R,S1,S2,S3) (c,ss,L,G) r).2.2.2.2 else if (bestF (N,A,C,Q,R,S1,S2,S3) (c,ss,L,G) r).1=(g1,g2,g3,g4)∧(bestF (N,A,C,Q,R,S1,S2,S3) (c,ss,L,G) r).2.2.2.1=l then 0 else 23:=rfl
 obtain ⟨⟨⟨b1,b2,b3,b4⟩,bp,bd,bl,e⟩,hB⟩:∃ X:DPlan × Int × Int × List DPlace × Int,bestF (N,A,C,Q,R,S1,S2,S3) (c,ss,L,G) r=X:=⟨_,rfl⟩
 rw [hB] at hF
 dsimp only at hF
 dsimp only [entICk,x19,Z20,Z23,Za,Zb,Zc,Zd,Ze,Zg]
 by_cases h0:e=0∨e=4
 ·rw [if_neg (by omega)] at hF
  by_cases h1:((b1,b2,b3,b4):DPlan)=(g1,g2,g3,g4)
  ·by_cases h2:bl=l
   ·rw [if_pos ⟨h1,h2⟩] at hF
    rcases h0 with h0 | h0 <;>
    ·subst h0
     simp only [↓hcsICk,entBst,entIsm,entEqPl,undef,hB,hF,hl,h1,h2,go_sem,YA,YS,YM,YL,YE,YD,YB,YN,YR,reduceIte,reduceCtorEq,↓reduceIte]
     try simp only [hB,hF,hl,h1,h2,td,reduceCtorEq]
   ·rw [if_neg (fun z=>h2 z.2)] at hF
    rcases h0 with h0 | h0 <;>
    ·subst h0
     simp only [↓hcsICk,entBst,entIsm,entEqPl,undef,hB,hF,hl,h1,h2,go_sem,YA,YS,YM,YL,YE,YD,YB,YN,YR,reduceIte,reduceCtorEq,↓reduceIte]
     try simp only [hB,hF,hl,h1,h2,td,reduceCtorEq]
  ·rw [if_neg (fun z=>h1 z.1)] at hF
   rcases h0 with h0 | h0 <;>
   ·subst h0
    simp only [↓hcsICk,entBst,entIsm,entEqPl,undef,hB,hF,hl,h1,go_sem,YA,YS,YM,YL,YE,YD,YB,YN,YR,reduceIte,reduceCtorEq,↓reduceIte]
    try simp only [hB,hF,hl,h1,td,reduceCtorEq]
 ·have e0:¬ e=0:=by omega
  have e4:¬ e=4:=by omega
  rw [if_pos ⟨e0,e4⟩] at hF
  simp only [↓hcsICk,entBst,entIsm,entEqPl,undef,hB,hF,hl,e0,e4,go_sem,YA,YS,YM,YL,YE,YD,YB,YN,YR,reduceIte,reduceCtorEq,↓reduceIte]
  try simp only [hB,hF,hl,e0,e4,td,reduceCtorEq]
end T
end Go.Proofs.YtjlofnjlhgbmoaaGreat
end
