/- Parts of the proof (put together by a program): definitions, lemmas, and the law; no condition. -/
import Derived.Test.YtjlofnjlhgbmoaaGreatV41
import Derived.Test.YtjlofnjlhgbmoaaGreatV6
set_option linter.unusedVariables false
set_option linter.unusedSimpArgs false
open Nat renaming reduceAdd → YA, reduceSub → YS, reduceMul → YM, reduceLT → YL, reduceLeDiff → YE, reduceEqDiff → YD, reduceBEq → YB, reduceBNe → YN
open List renaming reduceReplicate → YR
section
namespace Go.Proofs.YtjlofnjlhgbmoaaGreat
open Go.RowKit Go.IntWalk
namespace T
def entRst21:Ent:=⟨18,.cons (.sl (.st (.cons (.int .i64) .bool))) (.cons (.int .i64) (.cons (.int .i64) (.cons (.int .i64) .nil))),(.sl (.st (.cons (.int .i64) .bool))),false,none,fun x=>List.length (α:=DStop) x.1≤1000,fun x=>stopsI x.1 x.2.1 x.2.2.1 x.2.2.2.1⟩
def csRst21:List Ent:=[] theorem hcsRst21 (f:FuncId):findEnt csRst21 f=findEnt [] f:=rfl
set_option maxHeartbeats 8000000 in
theorem conRst21:Con Tryz.prog entRst21:=by
 refine con_is (C:=csRst21) x18 (by kernel_rfl) (by simp [csRst21]) fun x hx hf=>?_
 obtain ⟨(ss:List DStop),(r:Int),(a:Int),(b:Int),_⟩:=x
 have hl:ss.length≤1000:=hx
 dsimp only [entRst21,x18,Z8,Za,Zb,Ze,Zg]
 by_cases h:a < 0∨b < a∨(ss.length:Int) < b
 ·have e:stopsI ss r a b=[]:=by unfold stopsI;rw [if_pos h]
  by_cases h1:a < 0
  ·simp only [↓hcsRst21,undef,e,h1,go_sem,YA,YS,YM,YL,YE,YD,YB,YN,YR,reduceIte,reduceCtorEq,↓reduceIte]
   try simp only [e,h1,td,reduceCtorEq]
  by_cases h2:b < a
  ·simp only [↓hcsRst21,undef,e,h1,h2,go_sem,YA,YS,YM,YL,YE,YD,YB,YN,YR,reduceIte,reduceCtorEq,↓reduceIte]
   try simp only [e,h1,h2,td,reduceCtorEq]
  have h3:(ss.length:Int) < b:=by omega
  have h4:b > (ss.length:Int):=h3
  simp only [↓hcsRst21,undef,e,h1,h2,h3,h4,go_sem,YA,YS,YM,YL,YE,YD,YB,YN,YR,reduceIte,reduceCtorEq,↓reduceIte]
  try simp only [e,h1,h2,h3,h4,td,reduceCtorEq]
 ·have h1:¬ a < 0:=by omega
  have h2:¬ b < a:=by omega
  have h3:¬ (ss.length:Int) < b:=by omega
  have h4:¬ b > (ss.length:Int):=h3
  obtain ⟨a,rfl⟩:∃ n:Nat,a=n:=⟨a.toNat,by omega⟩
  obtain ⟨b,rfl⟩:∃ n:Nat,b=n:=⟨b.toNat,by omega⟩
  rw [← outI_all (r:=r) (ss:=ss) (a:=a) (b:=b) (by omega) (by omega)]
  simp only [↓hcsRst21,undef,h1,h2,h3,h4,go_sem,YA,YS,YM,YL,YE,YD,YB,YN,YR,reduceIte,reduceCtorEq,↓reduceIte]
  try simp only [h1,h2,h3,h4,td,reduceCtorEq]
  refine XW_for 1000 x18_0d [0] Nat (fun j=>[(10,.val (.int .i64) (j:Int)),(9,.own 14)]) (fun j=>[(14,.row 72 (.st (.cons (.int .i64) .bool)) (outI ss r a b j))]) (fun j=>j≤ss.length+1) (fun j=>ss.length+1 - j) 0 ?_ ?_ ?_
  ·dsimp only [x18_0d];simp only [go_sem,YA,YS,YM,YL,YE,YD,YB,YN,YR,reduceIte,reduceCtorEq,↓reduceIte];try trivial
  ·exact Nat.zero_le _
  intro j hj
  have ho:=outI_len (ss:=ss) (r:=r) (a:=a) (b:=b) j
  dsimp only [x18_0,x18_0d,Z1,Z8,Za,Zb,Zc,Zg]
  by_cases hj':j≤ss.length
  ·have hji:(j:Int)≤(ss.length:Int):=by omega
   have w2:IntKind.i64.wrap ((j:Int)+1)=((j+1:Nat):Int):=i64_in _ (by omega)
   have b1:((outI ss r a b j).length+1) * 16≤140737488355328:=by omega
   have b2:((outI ss r a b j).length+1+1) * 16≤140737488355328:=by omega
   have b3:((outI ss r a b j).length+1+1+1) * 16≤140737488355328:=by omega
   have hs:outI ss r a b (j+1)=outI ss r a b j ++ ((if j=a then [(r,true)] else []) ++ ((if j=b then [(r,false)] else []) ++ if j < ss.length then [ss.getD j dStop] else [])):=rfl
   by_cases ca:j=a
   ·by_cases cb:j=b
    ·by_cases cl:j < ss.length
     ·have ca':((j:Int)=(a:Int))=True:=eq_true (by omega)
      have cb':((j:Int)=(b:Int))=True:=eq_true (by omega)
      have cl':((j:Int) < (ss.length:Int))=True:=eq_true (by omega)
      have cl'':(j < ss.length)=True:=eq_true (by omega)
      rw [if_pos ca,if_pos cb,if_pos cl] at hs
      try simp only [List.nil_append,List.append_nil] at hs
      simp only [↓hcsRst21,undef,hji,hj',w2,ca',cb',cl',cl'',b1,b2,b3,List.length_append,Int.toNat_natCast,go_sem,YA,YS,YM,YL,YE,YD,YB,YN,YR,reduceIte,reduceCtorEq,↓reduceIte]
      try simp only [hji,hj',w2,ca',cb',cl',cl'',b1,b2,b3,List.length_append,Int.toNat_natCast,td,reduceCtorEq]
      exact ⟨j+1,by omega,by omega,rfl,by rw [hs];try simp only [List.append_assoc]⟩
     ·have ca':((j:Int)=(a:Int))=True:=eq_true (by omega)
      have cb':((j:Int)=(b:Int))=True:=eq_true (by omega)
      have cl':((j:Int) < (ss.length:Int))=False:=eq_false (by omega)
      have cl'':(j < ss.length)=False:=eq_false (by omega)
      rw [if_pos ca,if_pos cb,if_neg cl] at hs
      try simp only [List.nil_append,List.append_nil] at hs
      simp only [↓hcsRst21,undef,hji,hj',w2,ca',cb',cl',cl'',b1,b2,b3,List.length_append,Int.toNat_natCast,go_sem,YA,YS,YM,YL,YE,YD,YB,YN,YR,reduceIte,reduceCtorEq,↓reduceIte]
      try simp only [hji,hj',w2,ca',cb',cl',cl'',b1,b2,b3,List.length_append,Int.toNat_natCast,td,reduceCtorEq]
      exact ⟨j+1,by omega,by omega,rfl,by rw [hs];try simp only [List.append_assoc]⟩
    ·by_cases cl:j < ss.length
     ·have ca':((j:Int)=(a:Int))=True:=eq_true (by omega)
      have cb':((j:Int)=(b:Int))=False:=eq_false (by omega)
      have cl':((j:Int) < (ss.length:Int))=True:=eq_true (by omega)
      have cl'':(j < ss.length)=True:=eq_true (by omega)
      rw [if_pos ca,if_neg cb,if_pos cl] at hs
      try simp only [List.nil_append,List.append_nil] at hs
      simp only [↓hcsRst21,undef,hji,hj',w2,ca',cb',cl',cl'',b1,b2,b3,List.length_append,Int.toNat_natCast,go_sem,YA,YS,YM,YL,YE,YD,YB,YN,YR,reduceIte,reduceCtorEq,↓reduceIte]
      try simp only [hji,hj',w2,ca',cb',cl',cl'',b1,b2,b3,List.length_append,Int.toNat_natCast,td,reduceCtorEq]
      exact ⟨j+1,by omega,by omega,rfl,by rw [hs];try simp only [List.append_assoc]⟩
     ·have ca':((j:Int)=(a:Int))=True:=eq_true (by omega)
      have cb':((j:Int)=(b:Int))=False:=eq_false (by omega)
      have cl':((j:Int) < (ss.length:Int))=False:=eq_false (by omega)
      have cl'':(j < ss.length)=False:=eq_false (by omega)
      rw [if_pos ca,if_neg cb,if_neg cl] at hs
      try simp only [List.nil_append,List.append_nil] at hs
      simp only [↓hcsRst21,undef,hji,hj',w2,ca',cb',cl',cl'',b1,b2,b3,List.length_append,Int.toNat_natCast,go_sem,YA,YS,YM,YL,YE,YD,YB,YN,YR,reduceIte,reduceCtorEq,↓reduceIte]
      try simp only [hji,hj',w2,ca',cb',cl',cl'',b1,b2,b3,List.length_append,Int.toNat_natCast,td,reduceCtorEq]
      exact ⟨j+1,by omega,by omega,rfl,by rw [hs];try simp only [List.append_assoc]⟩
   ·by_cases cb:j=b
    ·by_cases cl:j < ss.length
     ·have ca':((j:Int)=(a:Int))=False:=eq_false (by omega)
      have cb':((j:Int)=(b:Int))=True:=eq_true (by omega)
      have cl':((j:Int) < (ss.length:Int))=True:=eq_true (by omega)
      have cl'':(j < ss.length)=True:=eq_true (by omega)
      rw [if_neg ca,if_pos cb,if_pos cl] at hs
      try simp only [List.nil_append,List.append_nil] at hs
      simp only [↓hcsRst21,undef,hji,hj',w2,ca',cb',cl',cl'',b1,b2,b3,List.length_append,Int.toNat_natCast,go_sem,YA,YS,YM,YL,YE,YD,YB,YN,YR,reduceIte,reduceCtorEq,↓reduceIte]
      try simp only [hji,hj',w2,ca',cb',cl',cl'',b1,b2,b3,List.length_append,Int.toNat_natCast,td,reduceCtorEq]
      exact ⟨j+1,by omega,by omega,rfl,by rw [hs];try simp only [List.append_assoc]⟩
     ·have ca':((j:Int)=(a:Int))=False:=eq_false (by omega)
      have cb':((j:Int)=(b:Int))=True:=eq_true (by omega)
      have cl':((j:Int) < (ss.length:Int))=False:=eq_false (by omega)
      have cl'':(j < ss.length)=False:=eq_false (by omega)
      rw [if_neg ca,if_pos cb,if_neg cl] at hs
      try simp only [List.nil_append,List.append_nil] at hs
      simp only [↓hcsRst21,undef,hji,hj',w2,ca',cb',cl',cl'',b1,b2,b3,List.length_append,Int.toNat_natCast,go_sem,YA,YS,YM,YL,YE,YD,YB,YN,YR,reduceIte,reduceCtorEq,↓reduceIte]
      try simp only [hji,hj',w2,ca',cb',cl',cl'',b1,b2,b3,List.length_append,Int.toNat_natCast,td,reduceCtorEq]
      exact ⟨j+1,by omega,by omega,rfl,by rw [hs];try simp only [List.append_assoc]⟩
    ·by_cases cl:j < ss.length
     ·have ca':((j:Int)=(a:Int))=False:=eq_false (by omega)
      have cb':((j:Int)=(b:Int))=False:=eq_false (by omega)
      have cl':((j:Int) < (ss.length:Int))=True:=eq_true (by omega)
      have cl'':(j < ss.length)=True:=eq_true (by omega)
      rw [if_neg ca,if_neg cb,if_pos cl] at hs
      try simp only [List.nil_append,List.append_nil] at hs
      simp only [↓hcsRst21,undef,hji,hj',w2,ca',cb',cl',cl'',b1,b2,b3,List.length_append,Int.toNat_natCast,go_sem,YA,YS,YM,YL,YE,YD,YB,YN,YR,reduceIte,reduceCtorEq,↓reduceIte]
      try simp only [hji,hj',w2,ca',cb',cl',cl'',b1,b2,b3,List.length_append,Int.toNat_natCast,td,reduceCtorEq]
      exact ⟨j+1,by omega,by omega,rfl,by rw [hs];try simp only [List.append_assoc]⟩
     ·have ca':((j:Int)=(a:Int))=False:=eq_false (by omega)
      have cb':((j:Int)=(b:Int))=False:=eq_false (by omega)
      have cl':((j:Int) < (ss.length:Int))=False:=eq_false (by omega)
      have cl'':(j < ss.length)=False:=eq_false (by omega)
      rw [if_neg ca,if_neg cb,if_neg cl] at hs
      try simp only [List.nil_append,List.append_nil] at hs
      simp only [↓hcsRst21,undef,hji,hj',w2,ca',cb',cl',cl'',b1,b2,b3,List.length_append,Int.toNat_natCast,go_sem,YA,YS,YM,YL,YE,YD,YB,YN,YR,reduceIte,reduceCtorEq,↓reduceIte]
      try simp only [hji,hj',w2,ca',cb',cl',cl'',b1,b2,b3,List.length_append,Int.toNat_natCast,td,reduceCtorEq]
      exact ⟨j+1,by omega,by omega,rfl,by rw [hs];try simp only [List.append_assoc]⟩
  ·have hji:¬ (j:Int)≤(ss.length:Int):=by omega
   obtain rfl:j=ss.length+1:=by omega
   simp only [↓hcsRst21,undef,hji,hj',go_sem,YA,YS,YM,YL,YE,YD,YB,YN,YR,reduceIte,reduceCtorEq,↓reduceIte]
   try simp only [hji,hj',td,reduceCtorEq]
end T
end Go.Proofs.YtjlofnjlhgbmoaaGreat
end
