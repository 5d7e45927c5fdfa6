/- Parts of the proof (put together by a program): definitions, lemmas, and the law; no condition. -/
import Derived.Test.YtcnfmabhghhdnaaGreatV41
import Derived.Test.YtcnfmabhghhdnaaGreatV44
import Derived.Test.YtcnfmabhghhdnaaGreatV6
set_option linter.unusedVariables false
set_option linter.unusedSimpArgs false
open Nat renaming reduceAdd → YA, reduceSub → YS, reduceMul → YM, reduceLT → YL, reduceLeDiff → YE, reduceEqDiff → YD, reduceBEq → YB, reduceBNe → YN
open List renaming reduceReplicate → YR
section
namespace Go.Proofs.YtcnfmabhghhdnaaGreat
open Go.RowKit Go.IntWalk
namespace T
def oneI (b:Prop) [Decidable b] (c:Int):Int:=if b then c else 0
def carN (a b:List DPlan) (r:Int):Nat→Int
 | 0=>0
 | i+1=>carN a b r i+oneI (0≤atF (r,true) (a.getD i dPlan).2.1) 1 - oneI (0≤atF (r,true) (b.getD i dPlan).2.1) 1+oneI (0≤atF (r,false) (a.getD i dPlan).2.1) 100 - oneI (0≤atF (r,false) (b.getD i dPlan).2.1) 100
theorem car_rng (a b:List DPlan) (r:Int):∀ i:Nat,-101 * (i:Int)≤carN a b r i∧carN a b r i≤101 * i
 | 0=>⟨Int.le_refl _,Int.le_refl _⟩
 | i+1=>by
  have:=car_rng a b r i
  unfold carN oneI
  split <;> split <;> split <;> split <;> omega
def CrdP (a b:List DPlan) (q:Int):Prop:=(∀ r:Nat,(r:Int) < q→carN a b r (min a.length b.length)=0)∧a.length=b.length
def crdB (a b:List DPlan) (q:Int):Bool:=decide ((∀ r,r < q.toNat→carN a b (r:Nat) (min a.length b.length)=0)∧a.length=b.length)
theorem crd_iff {a b:List DPlan} {q:Int}:crdB a b q=true ↔ CrdP a b q:=by
 unfold crdB CrdP
 rw [decide_eq_true_eq]
 exact ⟨fun h=>⟨fun r hr=>h.1 r (by omega),h.2⟩,fun h=>⟨fun r hr=>h.1 r (by omega),h.2⟩⟩
def entCar:Ent:=⟨18,.cons (.sl (.st (.cons (.int .i64) (.cons (.sl (.st (.cons (.int .i64) .bool))) (.cons (.sl (.st (.cons (.int .i64) (.int .i64)))) (.sl (.int .i64))))))) (.cons (.sl (.st (.cons (.int .i64) (.cons (.sl (.st (.cons (.int .i64) .bool))) (.cons (.sl (.st (.cons (.int .i64) (.int .i64)))) (.sl (.int .i64))))))) (.cons (.int .i64) .nil)),.bool,false,none,fun x=>List.length (α:=DPlan) x.1≤1000∧(x.2.2.1:Int)≤1000,fun x=>crdB x.1 x.2.1 x.2.2.1⟩
def csCar:List Ent:=[entAt23] theorem hcsCar (f:FuncId):findEnt csCar f=findEnt [entAt23] f:=rfl
set_option maxHeartbeats 4000000 in
theorem conCar:Con Tryz.prog entCar:=by
 refine con_is (C:=csCar) x18 (by kernel_rfl) (by simp [csCar,conAt23]) fun x hx hf=>?_
 obtain ⟨(a:List DPlan),(b:List DPlan),(q:Int),_⟩:=x
 obtain ⟨hl,hq⟩:a.length≤1000∧q≤1000:=hx
 have hlb:b.length≤9223372036854775807:=hf.2.1.1
 have hY:CrdP a b q→crdB a b q=true:=crd_iff.2
 have hN:¬ CrdP a b q→crdB a b q=false:=fun h=>by rw [← Bool.not_eq_true,crd_iff];exact h
 dsimp only [entCar,x18,Za,Zb]
 simp only [↓hcsCar,entAt23,undef,go_sem,YA,YS,YM,YL,YE,YD,YB,YN,YR,reduceIte,reduceCtorEq,↓reduceIte]
 try simp only [td,reduceCtorEq]
 refine XW_for 1000 x18_0d [] Nat (fun r=>[(7,.val (.int .i64) (r:Int))]) (fun _=>[]) (fun r=>r≤1000∧∀ i:Nat,i < r→carN a b i (min a.length b.length)=0) (fun r=>1000 - r) 0 ?_ ?_ ?_
 ·dsimp only [x18_0d];simp only [go_sem,YA,YS,YM,YL,YE,YD,YB,YN,YR,reduceIte,reduceCtorEq,↓reduceIte];try trivial
 ·exact ⟨Nat.zero_le _,fun i hi=>absurd hi (Nat.not_lt_zero _)⟩
 rintro r ⟨hr,hn⟩
 dsimp only [x18_0,x18_0d,Za,Zb,Zg]
 by_cases hr':(r:Int) < q
 ·have wr:IntKind.i64.wrap ((r:Int)+1)=((r+1:Nat):Int):=i64_in _ (by omega)
  simp only [↓hcsCar,entAt23,undef,hr',wr,go_sem,YA,YS,YM,YL,YE,YD,YB,YN,YR,reduceIte,reduceCtorEq,↓reduceIte]
  try simp only [hr',wr,td,reduceCtorEq]
  refine XW_for 2000 x18_1d [] Nat (fun i=>[(9,.val (.int .i64) (i:Int)),(8,.val (.int .i64) (carN a b r i))]) (fun _=>[]) (fun i=>i≤min a.length b.length) (fun i=>min a.length b.length - i) 0 ?_ ?_ ?_
  ·dsimp only [x18_1d];simp only [go_sem,YA,YS,YM,YL,YE,YD,YB,YN,YR,reduceIte,reduceCtorEq,↓reduceIte]
   try exact ⟨rfl,rfl⟩
  ·exact Nat.zero_le _
  intro i hi
  dsimp only [x18_1,x18_1d,Z12,Z13,Za,Zb,Zc,Zd,Zg]
  by_cases hi':i < min a.length b.length
  ·have ha:i < a.length:=by omega
   have hb:i < b.length:=by omega
   have wi:IntKind.i64.wrap ((i:Int)+1)=((i+1:Nat):Int):=i64_in _ (by omega)
   have hrg:=car_rng a b r i
   have hs:carN a b r (i+1)=carN a b r i+oneI (0≤atF ((r:Int),true) (a.getD i dPlan).2.1) 1 - oneI (0≤atF ((r:Int),true) (b.getD i dPlan).2.1) 1+oneI (0≤atF ((r:Int),false) (a.getD i dPlan).2.1) 100 - oneI (0≤atF ((r:Int),false) (b.getD i dPlan).2.1) 100:=rfl
   generalize carN a b r i=n at hrg hs
   dsimp only [dPlan] at hs
   simp only [↓hcsCar,entAt23,undef,ha,hb,wi,go_sem,YA,YS,YM,YL,YE,YD,YB,YN,YR,reduceIte,reduceCtorEq,↓reduceIte]
   try simp only [ha,hb,wi,td,reduceCtorEq]
   generalize atF ((r:Int),true) (a.getD i (0,[],[],[])).2.1=t0 at hs ⊢
   generalize atF ((r:Int),true) (b.getD i (0,[],[],[])).2.1=t1 at hs ⊢
   generalize atF ((r:Int),false) (a.getD i (0,[],[],[])).2.1=t2 at hs ⊢
   generalize atF ((r:Int),false) (b.getD i (0,[],[],[])).2.1=t3 at hs ⊢
   unfold oneI at hs
   refine ⟨fun c0=>⟨fun c1=>⟨fun c2=>⟨fun c3=>?_,fun c3=>?_⟩,fun c2=>⟨fun c3=>?_,fun c3=>?_⟩⟩,fun c1=>⟨fun c2=>⟨fun c3=>?_,fun c3=>?_⟩,fun c2=>⟨fun c3=>?_,fun c3=>?_⟩⟩⟩,fun c0=>⟨fun c1=>⟨fun c2=>⟨fun c3=>?_,fun c3=>?_⟩,fun c2=>⟨fun c3=>?_,fun c3=>?_⟩⟩,fun c1=>⟨fun c2=>⟨fun c3=>?_,fun c3=>?_⟩,fun c2=>⟨fun c3=>?_,fun c3=>?_⟩⟩⟩⟩
   all_goals
    refine ⟨i+1,by omega,by omega,rfl,?_⟩
    show (_:Int)=_
    rw [hs]
    try simp only [IntKind.wrap_i64]
    first | rw [if_pos c0] | rw [if_neg (Int.not_le.2 c0)]
    first | rw [if_pos c1] | rw [if_neg (Int.not_le.2 c1)]
    first | rw [if_pos c2] | rw [if_neg (Int.not_le.2 c2)]
    first | rw [if_pos c3] | rw [if_neg (Int.not_le.2 c3)]
    omega
  ·obtain rfl:i=min a.length b.length:=by omega
   by_cases hz:carN a b r (min a.length b.length)=0
   ·by_cases ha:min a.length b.length < a.length
    ·have hb:¬ min a.length b.length < b.length:=by omega
     simp only [↓hcsCar,entAt23,undef,ha,hb,hz,go_sem,YA,YS,YM,YL,YE,YD,YB,YN,YR,reduceIte,reduceCtorEq,↓reduceIte]
     try simp only [ha,hb,hz,td,reduceCtorEq]
     exact ⟨r+1,by omega,⟨by omega,fun i hi=>by
      rcases Nat.lt_or_ge i r with z | z
      ·exact hn i z
      ·rw [show i=r by omega];exact hz⟩,wr⟩
    ·simp only [↓hcsCar,entAt23,undef,ha,hz,go_sem,YA,YS,YM,YL,YE,YD,YB,YN,YR,reduceIte,reduceCtorEq,↓reduceIte]
     try simp only [ha,hz,td,reduceCtorEq]
     exact ⟨r+1,by omega,⟨by omega,fun i hi=>by
      rcases Nat.lt_or_ge i r with z | z
      ·exact hn i z
      ·rw [show i=r by omega];exact hz⟩,wr⟩
   ·have hF:=hN fun h=>hz (h.1 r hr')
    by_cases ha:min a.length b.length < a.length
    ·have hb:¬ min a.length b.length < b.length:=by omega
     simp only [↓hcsCar,entAt23,undef,ha,hb,hz,hF,go_sem,YA,YS,YM,YL,YE,YD,YB,YN,YR,reduceIte,reduceCtorEq,↓reduceIte]
     try simp only [ha,hb,hz,hF,td,reduceCtorEq]
    ·simp only [↓hcsCar,entAt23,undef,ha,hz,hF,go_sem,YA,YS,YM,YL,YE,YD,YB,YN,YR,reduceIte,reduceCtorEq,↓reduceIte]
     try simp only [ha,hz,hF,td,reduceCtorEq]
 ·have hE:crdB a b q=((a.length:Int) == (b.length:Int)):=by
   rw [Bool.eq_iff_iff,beq_iff_eq]
   exact ⟨fun h=>by have:=(crd_iff.1 h).2;omega,fun h=>hY ⟨fun i hi=>hn i (by omega),by omega⟩⟩
  simp only [↓hcsCar,entAt23,undef,hr',hE,go_sem,YA,YS,YM,YL,YE,YD,YB,YN,YR,reduceIte,reduceCtorEq,↓reduceIte]
  try simp only [hr',hE,td,reduceCtorEq]
end T
end Go.Proofs.YtcnfmabhghhdnaaGreat
end
