/- Parts of the proof (put together by a program): definitions, lemmas, and the law; no condition. -/
import Derived.Test.YtcnfmabhghhdnaaGreatV24
import Derived.Test.YtcnfmabhghhdnaaGreatV6
set_option linter.unusedVariables false
set_option linter.unusedSimpArgs false
open Nat renaming reduceAdd → YA, reduceSub → YS, reduceMul → YM, reduceLT → YL, reduceLeDiff → YE, reduceEqDiff → YD, reduceBEq → YB, reduceBNe → YN
open List renaming reduceReplicate → YR
section
namespace Go.Proofs.YtcnfmabhghhdnaaGreat
open Go.RowKit Go.IntWalk
namespace T
theorem sumK_pick {rs:List DReq} {p:Int × Bool}:∀ {L:List (Int × Bool)} {i:Nat},L[i]? = some p→sumK rs (L.map (·.1))=add3 (rl rs p.1) (sumK rs ((L.eraseIdx i).map (·.1)))
 | [],_,h=>by simp at h
 | q :: r,0,h=>by
  simp only [List.getElem?_cons_zero,Option.some.injEq] at h
  subst h;rfl
 | q :: r,i+1,h=>by
  simp only [List.getElem?_cons_succ] at h
  rw [List.map_cons,sumK,sumK_pick h,List.eraseIdx_cons_succ,List.map_cons,sumK,← add3_assoc,add3_comm (rl rs q.1),add3_assoc]
theorem any_pick {α:Type} {f:α→Bool} {p:α}:∀ {L:List α} {i:Nat},L[i]? = some p→f p=false→(L.eraseIdx i).any f=L.any f
 | [],_,h,_=>by simp at h
 | q :: r,0,h,hf=>by
  simp only [List.getElem?_cons_zero,Option.some.injEq] at h
  subst h;simp [hf]
 | q :: r,i+1,h,hf=>by
  simp only [List.getElem?_cons_succ] at h
  rw [List.eraseIdx_cons_succ,List.any_cons,List.any_cons,any_pick h hf]
abbrev DMap:=List (Int × Bool)
def entCLoad:Ent:=⟨175,.cons (.mp .i64 .bool) (.cons (.sl (.st (.cons (.int .i64) (.cons (.int .i64) (.cons (.int .i64) (.cons (.int .i64) (.cons (.int .i64) (.cons (.int .i64) (.cons (.int .i64) (.cons (.int .i64) (.cons (.int .i64) (.int .i64)))))))))))) .nil),(.st (.cons (.int .i64) (.cons (.int .i64) (.int .i64)))),false,none,fun x=>(x.1:DMap).length≤30000∧∀ k ∈ (x.1:DMap),(0≤k.1∧k.1 < (x.2.1:List DReq).length)∧placesB (rl x.2.1 k.1)=true,fun x=>sumK x.2.1 ((x.1:DMap).map (·.1))⟩
def csCl:List Ent:=[entOf] theorem hcsCl (f:FuncId):findEnt csCl f=findEnt [entOf] f:=rfl
theorem conCLoad:Con Tryz.prog entCLoad:=by
 refine con_is (C:=csCl) x175 (by kernel_rfl) (by simp [csCl,conOf]) fun x hx hf=>?_
 obtain ⟨(H:DMap),(rs:List DReq),_⟩:=x
 obtain ⟨hn,hk⟩:=hx
 dsimp only at hn hk
 dsimp only [entCLoad,x175,Z5,Zb,Zg];simp only [↓hcsCl,entOf,go_sem,YA,YS,YM,YL,YE,YD,YB,YN,YR,reduceIte,reduceCtorEq,↓reduceIte];try simp only [td,reduceCtorEq]
 refine XW_for 1000 x175_0d [0] (DMap × DLoad) (fun _=>[])
  (fun s=>[(3,.it .i64 .bool s.1 none),(1,.box 165 [.val (.int .i64) s.2.1,.val (.int .i64) s.2.2.1,.val (.int .i64) s.2.2.2])])
  (fun s=>add3 s.2 (sumK rs (s.1.map (·.1)))=sumK rs (H.map (·.1))∧(∀ k ∈ s.1,k ∈ H)∧s.1.length≤H.length∧(0≤s.2.1∧s.2.1≤60 * (H.length - s.1.length))∧(0≤s.2.2.1∧s.2.2.1≤60 * (H.length - s.1.length))∧0≤s.2.2.2∧s.2.2.2≤60 * (H.length - s.1.length))
  (fun s=>s.1.length) (H,0,0,0) ?_ ?_ ?_
 ·dsimp only [x175_0d]
  simp only [go_sem,YA,YS,YM,YL,YE,YD,YB,YN,YR,reduceIte,reduceCtorEq,↓reduceIte]
  try trivial
 ·exact ⟨zero_add3 _,fun k hk=>hk,Nat.le_refl _,by dsimp only;omega,by dsimp only;omega,by dsimp only;omega⟩
 ·rintro ⟨L,s1,s2,s3⟩ ⟨hs,hL,hlen,hb1,hb2,hb3⟩
  dsimp only at hs hL hlen hb1 hb2 hb3
  dsimp only [x175_0,x175_0d,Z1,Z5,Z6,Za,Zb,Zc,Zd,Zg,Zi]
  simp only [↓hcsCl,entOf,go_sem,YA,YS,YM,YL,YE,YD,YB,YN,YR,reduceIte,reduceCtorEq,↓reduceIte]
  try simp only [td,reduceCtorEq]
  refine ⟨fun h0=>?_,fun i p hi=>?_⟩
  ·subst h0
   rw [← hs];exact (add3_zero _).symm
  ·have hil:=(List.getElem?_eq_some_iff.1 hi).1
   have hpH:p ∈ H:=hL p (List.mem_of_getElem? hi)
   obtain ⟨hr,hpl⟩:=hk p hpH
   have hpl:=placesB_iff.1 hpl
   unfold rl at hpl
   have hle:(L.eraseIdx i).length=L.length - 1:=List.length_eraseIdx_of_lt hil
   have hpk:=sumK_pick (rs:=rs) hi
   refine ⟨hr,(L.eraseIdx i,add3 (s1,s2,s3) (rl rs p.1)),by rw [hle];omega,⟨?_,fun k hk=>hL k (List.mem_of_mem_eraseIdx hk),by rw [hle];omega,?_⟩,rfl,?_⟩
   ·rw [add3_assoc,← hpk];exact hs
   ·rw [hle]
    unfold add3 rl
    dsimp only [dReq] at hpl ⊢
    omega
   ·unfold add3 rl
    dsimp only [dReq] at hpl ⊢
    exact ⟨i64_in _ (by omega),i64_in _ (by omega),i64_in _ (by omega)⟩
def entCHas:Ent:=⟨124,.cons (.mp .i64 .bool) (.cons (.int .i64) (.cons (.sl (.st (.cons (.int .i64) (.cons (.int .i64) (.cons (.int .i64) (.cons (.int .i64) (.cons (.int .i64) (.cons (.int .i64) (.cons (.int .i64) (.cons (.int .i64) (.cons (.int .i64) (.int .i64)))))))))))) .nil)),.bool,false,none,fun x=>∀ k ∈ (x.1:DMap),(0≤k.1∧k.1 < (x.2.2.1:List DReq).length),fun x=>(x.1:DMap).any fun k=>decide (((x.2.2.1:List DReq).getD k.1.toNat dReq).1=x.2.1)⟩
def csCh:List Ent:=[] theorem hcsCh (f:FuncId):findEnt csCh f=findEnt [] f:=rfl
theorem conCHas:Con Tryz.prog entCHas:=by
 refine con_is (C:=csCh) x124 (by kernel_rfl) (by simp [csCh]) fun x hx hf=>?_
 obtain ⟨(H:DMap),(m:Int),(rs:List DReq),_⟩:=x
 have hx:∀ k ∈ H,(0≤k.1∧k.1 < rs.length):=hx
 dsimp only [entCHas,x124,Zb];simp only [↓hcsCh,go_sem,YA,YS,YM,YL,YE,YD,YB,YN,YR,reduceIte,reduceCtorEq,↓reduceIte];try simp only [td,reduceCtorEq]
 refine XW_for 1000 x124_0d [] DMap (fun _=>[]) (fun s=>[(2,.it .i64 .bool s none)])
  (fun s=>(∀ k ∈ s,k ∈ H)∧s.any (fun k=>decide ((rs.getD k.1.toNat dReq).1=m))=H.any fun k=>decide ((rs.getD k.1.toNat dReq).1=m)) (fun s=>s.length) H ?_ ?_ ?_
 ·dsimp only [x124_0d]
  simp only [go_sem,YA,YS,YM,YL,YE,YD,YB,YN,YR,reduceIte,reduceCtorEq,↓reduceIte]
  try trivial
 ·exact ⟨fun k hk=>hk,rfl⟩
 ·rintro L ⟨hL,ha⟩
  dsimp only [x124_0,x124_0d,Z1,Z6,Za,Zb]
  simp only [↓hcsCh,go_sem,YA,YS,YM,YL,YE,YD,YB,YN,YR,reduceIte,reduceCtorEq,↓reduceIte]
  try simp only [td,reduceCtorEq]
  refine ⟨fun h0=>by subst h0;exact ha,fun i p hi=>⟨hx p (hL p (List.mem_of_getElem? hi)),fun q=>?_,fun q=>⟨L.eraseIdx i,?_,⟨fun k hk=>hL k (List.mem_of_mem_eraseIdx hk),?_⟩,rfl⟩⟩⟩
  ·symm
   rw [List.any_eq_true]
   exact ⟨p,hL p (List.mem_of_getElem? hi),decide_eq_true q⟩
  ·have hil:=(List.getElem?_eq_some_iff.1 hi).1
   rw [List.length_eraseIdx_of_lt hil];omega
  ·rw [← ha]
   exact any_pick hi (decide_eq_false q)
end T
end Go.Proofs.YtcnfmabhghhdnaaGreat
end
