/- Parts of the proof (put together by a program): definitions, lemmas, and the law; no condition. -/
import Derived.Test.YtcnfmabhghhdnaaGreatV5
import Derived.Test.YtcnfmabhghhdnaaGreatV6
set_option linter.unusedVariables false
set_option linter.unusedSimpArgs false
open Nat renaming reduceAdd → YA, reduceSub → YS, reduceMul → YM, reduceLT → YL, reduceLeDiff → YE, reduceEqDiff → YD, reduceBEq → YB, reduceBNe → YN
open List renaming reduceReplicate → YR
section
namespace Go.Proofs.YtcnfmabhghhdnaaGreat
open Go.RowKit Go.IntWalk
namespace T
def entCat:Ent:=⟨79,.cons (.sl (.sl (.int .i64))) .nil,(.sl (.int .i64)),false,none,fun x=>(x.1:List (List Int)).length≤1000∧∀ l ∈ (x.1:List (List Int)),l.length≤1000,fun x=>(x.1:List (List Int)).flatten⟩
def csCat:List Ent:=[entGrow0] theorem hcsCat (f:FuncId):findEnt csCat f=findEnt [entGrow0] f:=rfl
theorem flat_take {S:List (List Int)} {j:Nat} (h:j < S.length):(S.take j).flatten ++ S.getD j []=(S.take (j+1)).flatten:=by
 rw [List.take_succ_eq_append_getElem h,List.flatten_append]
 simp [List.getD,h]
theorem flat_len {S:List (List Int)} (h:∀ l ∈ S,l.length≤1000):∀ j,(S.take j).flatten.length≤1000 * j
 | 0=>by simp
 | j+1=>by
  rcases Nat.lt_or_ge j S.length with q | q
  ·rw [← flat_take q,List.length_append]
   have h1:=flat_len h j
   have h2:(S.getD j []).length≤1000:=h _ (by rw [List.getD_eq_getElem?_getD,List.getElem?_eq_getElem q];exact List.getElem_mem q)
   omega
  ·have h1:=flat_len h j
   rw [List.take_of_length_le (by omega)]
   rw [List.take_of_length_le q] at h1
   omega
set_option maxHeartbeats 1000000 in
theorem conCat:Con Tryz.prog entCat:=by
 refine con_is (C:=csCat) x79 (by kernel_rfl) (by simp [csCat,conGrow0]) fun x hx hf=>?_
 obtain ⟨(S:List (List Int)),_⟩:=x
 obtain ⟨hSl,hSe⟩:=hx
 replace hSl:S.length≤1000:=hSl
 replace hSe:∀ l ∈ S,l.length≤1000:=hSe
 dsimp only [entCat,x79,Z1,Za,Zb,Zg];simp only [↓hcsCat,entGrow0,go_sem,YA,YS,YM,YL,YE,YD,YB,YN,YR,reduceIte,reduceCtorEq,↓reduceIte]
 try simp only [td,reduceCtorEq]
 refine XW_for 1000 x79_0d [] Nat (fun j=>[(11,.val (.int .i64) (j:Int)),(3,.val (.int .i64) (((S.take j).flatten.length:Nat):Int))]) (fun _=>[]) (fun j=>j≤S.length) (fun j=>S.length - j) 0 ?_ ?_ ?_
 ·dsimp only [x79_0d];simp only [go_sem,YA,YS,YM,YL,YE,YD,YB,YN,YR,reduceIte,reduceCtorEq,↓reduceIte];try trivial
 ·exact Nat.zero_le _
 intro j hj
 by_cases hjl:j < S.length
 ·have w2:IntKind.i64.wrap ((j:Int)+1)=((j+1:Nat):Int):=i64_in _ (by omega)
  have h1:=flat_len hSe (j+1)
  have h2:(S.take (j+1)).flatten.length=(S.take j).flatten.length+(S.getD j []).length:=by rw [← flat_take hjl,List.length_append]
  have w3:IntKind.i64.wrap (((S.take j).flatten.length:Int)+((S.getD j []).length:Int))=(((S.take (j+1)).flatten.length:Nat):Int):=(i64_in _ (by omega)).trans (by omega)
  dsimp only [x79_0,x79_0d,Z10,Za,Zb,Zg];simp only [↓hcsCat,entGrow0,hjl,w2,w3,go_sem,YA,YS,YM,YL,YE,YD,YB,YN,YR,reduceIte,reduceCtorEq,↓reduceIte]
  simp only [hjl,w2,w3,td,reduceCtorEq]
  exact ⟨fun h=>by omega,j+1,by omega,by omega,rfl,rfl⟩
 ·obtain rfl:j=S.length:=by omega
  have hfl:(S.take S.length).flatten=S.flatten:=by rw [List.take_length]
  have h1:=flat_len hSe S.length
  rw [hfl] at h1
  have h2:(0:Int)≤(S.flatten.length:Int):=by omega
  have h3:(S.flatten.length:Int)≤1000000:=by omega
  dsimp only [x79_0,x79_0d,Z10,Za,Zb,Zg];simp only [↓hcsCat,entGrow0,hjl,hfl,h2,h3,go_sem,YA,YS,YM,YL,YE,YD,YB,YN,YR,reduceIte,reduceCtorEq,↓reduceIte]
  simp only [hjl,hfl,h2,h3,td,reduceCtorEq]
  refine XW_for 2000 x79_1d [] Nat (fun j=>[(27,.val (.int .i64) (j:Int)),(6,.own 1002)]) (fun j=>[(1002,.row 3 (.int .i64) (S.take j).flatten)]) (fun j=>j≤S.length) (fun j=>S.length - j) 0 ?_ ?_ ?_
  ·dsimp only [x79_1d];simp only [go_sem,YA,YS,YM,YL,YE,YD,YB,YN,YR,reduceIte,reduceCtorEq,↓reduceIte];try trivial
  ·exact Nat.zero_le _
  intro j hj
  by_cases hjl:j < S.length
  ·have w2:IntKind.i64.wrap ((j:Int)+1)=((j+1:Nat):Int):=i64_in _ (by omega)
   have hft:=flat_take hjl
   have h4:=flat_len hSe j
   have h5:(S.getD j []).length≤1000:=hSe _ (by rw [List.getD_eq_getElem?_getD,List.getElem?_eq_getElem hjl];exact List.getElem_mem hjl)
   dsimp only [x79_1,x79_1d,Z1,Z10,Za,Zb];simp only [↓hcsCat,entGrow0,hjl,w2,hft,go_sem,YA,YS,YM,YL,YE,YD,YB,YN,YR,reduceIte,reduceCtorEq,↓reduceIte]
   simp only [hjl,w2,hft,td,reduceCtorEq]
   refine ⟨?_,j+1,by omega,by omega,rfl,rfl⟩
   show ((S.take j).flatten.length+(S.getD j []).length) * 8≤140737488355328
   omega
  ·obtain rfl:j=S.length:=by omega
   dsimp only [x79_1,x79_1d,Z1,Z10,Za,Zb];simp only [↓hcsCat,entGrow0,hjl,hfl,go_sem,YA,YS,YM,YL,YE,YD,YB,YN,YR,reduceIte,reduceCtorEq,↓reduceIte]
   try simp only [hjl,hfl,td,reduceCtorEq]
end T
end Go.Proofs.YtcnfmabhghhdnaaGreat
end
