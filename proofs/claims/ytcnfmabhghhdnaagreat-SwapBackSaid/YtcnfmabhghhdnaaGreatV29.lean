/- Parts of the proof (put together by a program): definitions, lemmas, and the law; no condition. -/
import Derived.Test.YtcnfmabhghhdnaaGreatV28
import Derived.Test.YtcnfmabhghhdnaaGreatV6
set_option linter.unusedVariables false
set_option linter.unusedSimpArgs false
open Nat renaming reduceAdd → YA, reduceSub → YS, reduceMul → YM, reduceLT → YL, reduceLeDiff → YE, reduceEqDiff → YD, reduceBEq → YB, reduceBNe → YN
open List renaming reduceReplicate → YR
section
namespace Go.Proofs.YtcnfmabhghhdnaaGreat
open Go.RowKit Go.IntWalk
namespace T
theorem fst_keys (ks:List Int):(ks.map fun k=>(k,true)).map (fun x=>x.fst)=ks:=by rw [List.map_map];exact List.map_id _
theorem nodup_len:∀ {n:Nat} {ks:List Int},ks.Nodup→(∀ k ∈ ks,0≤k∧k < n)→ks.length≤n
 | 0,[],_,_=>Nat.le_refl _
 | 0,k :: r,_,h=>by have:=h k (by simp);omega
 | n+1,ks,hn,h=>by
  have h1:(kdel ks n).length≤n:=nodup_len (kdel_nodup hn) fun k hk=>by
   have:=(mem_kdel hn).1 hk
   have:=h k this.1
   omega
  have h2:∀ (k:Int) (ks:List Int),ks.length≤(kdel ks k).length+1:=fun k ks=>by
   induction ks with
   | nil=>simp
   | cons p r ih=>unfold kdel;split <;> simp <;> omega
  have:=h2 n ks
  omega
theorem look_ok {ss:List DStop} {rs:List DReq} (hr:RightS ss rs) {j:Nat} (hj:j≤ss.length):((cabK ss j).map fun k=>(k,true)).length≤30000∧∀ k ∈ (cabK ss j).map fun k=>(k,true),(0≤k.1∧k.1 < rs.length)∧placesB (rl rs k.1)=true:=by
 obtain ⟨h1,h2⟩:=cab_mem hr hj
 have h3:∀ k ∈ cabK ss j,(0≤k∧k < rs.length)∧placesB (rl rs k)=true:=fun k hk=>hr.in_req ((h2 k).1 hk)
 refine ⟨?_,fun k hk=>?_⟩
 ·rw [List.length_map]
  have:=nodup_len h1 fun k hk=>(h3 k hk).1
  have:=hr.1.2
  omega
 ·obtain ⟨x,hx,rfl⟩:=List.mem_map.1 hk
  exact h3 x hx
def entProf:Ent:=⟨118,.cons (.sl (.st (.cons (.int .i64) .bool))) (.cons (.sl (.st (.cons (.int .i64) (.cons (.int .i64) (.cons (.int .i64) (.cons (.int .i64) (.cons (.int .i64) (.cons (.int .i64) (.cons (.int .i64) (.cons (.int .i64) (.cons (.int .i64) (.int .i64)))))))))))) .nil),.cons (.sl (.st (.cons (.int .i64) (.cons (.int .i64) (.int .i64))))) (.cons (.int .i64) .nil),true,none,fun _=>True,fun x=>((profF x.1 x.2.1).1,(profF x.1 x.2.1).2,())⟩
def csPrf:List Ent:=[entRightS,entCLoad] theorem hcsPrf (f:FuncId):findEnt csPrf f=findEnt [entRightS,entCLoad] f:=rfl
theorem conProf:Con Tryz.prog entProf:=by
 refine con_is (C:=csPrf) x118 (by kernel_rfl) (by simp [csPrf,conRightS,conCLoad]) fun x hx hf=>?_
 obtain ⟨(ss:List DStop),(rs:List DReq),_⟩:=x
 have hl:ss.length≤9223372036854775807:=hf.1.1
 dsimp only [entProf,x118,x173,x177,x178,x174,Z1,Z5,Z7,Za,Zb,Zd,Zg]
 simp only [↓hcsPrf,entRightS,entCLoad,go_sem,YA,YS,YM,YL,YE,YD,YB,YN,YR,reduceIte,reduceCtorEq,↓reduceIte];try simp only [td,reduceCtorEq]
 refine ⟨fun h=>by unfold profF;rw [if_neg (by rw [h];simp)],fun h=>?_⟩
 have hr:RightS ss rs:=of_decide_eq_true h
 have hl:ss.length≤80:=hr.1.1
 have hrl:rs.length≤30000:=hr.1.2
 refine XW_for 1000 x177_0d [0,1,9] Nat (fun j=>[(11,.val (.int .i64) (j:Int))]) (fun j=>[(12,.mp .i64 .bool ((dropsK (ss.take j)).map fun k=>(k,true)))])
  (fun j=>j≤ss.length) (fun j=>ss.length - j) 0 ?_ ?_ ?_
 ·dsimp only [x177_0d]
  simp only [go_sem,YA,YS,YM,YL,YE,YD,YB,YN,YR,reduceIte,reduceCtorEq,↓reduceIte]
  try trivial
 ·exact Nat.zero_le _
 ·rintro j hj
  dsimp only [x177_0,x177_0d,Z1,Z8,Zb,Zc,Zd]
  simp only [↓hcsPrf,entRightS,entCLoad,go_sem,YA,YS,YM,YL,YE,YD,YB,YN,YR,reduceIte,reduceCtorEq,↓reduceIte]
  try simp only [td,reduceCtorEq]
  by_cases hj':j < ss.length
  ·have w2:IntKind.i64.wrap ((j:Int)+1)=((j+1:Nat):Int):=i64_in _ (by omega)
   have hd:=dropsK_next hj'
   dsimp only [dStop] at hd
   simp only [hj',w2,mset_keys,td,reduceCtorEq]
   refine ⟨fun q=>⟨j+1,by omega,hj',rfl,?_⟩,fun q=>⟨j+1,by omega,hj',rfl,?_⟩⟩
   ·rw [hd,dropK,if_neg (by rw [q];simp)]
   ·rw [hd,dropK,if_pos q]
  obtain rfl:j=ss.length:=by omega
  rw [List.take_of_length_le (Nat.le_refl _)]
  simp only [hj',td,reduceCtorEq]
  refine XW_for 2000 x177_1d [0,1,9] Nat (fun j=>[(24,.val (.int .i64) (j:Int))]) (fun j=>[(12,.mp .i64 .bool ((firstK ss (ss.take j)).map fun k=>(k,true)))])
   (fun j=>j≤ss.length) (fun j=>ss.length - j) 0 ?_ ?_ ?_
  ·dsimp only [x177_1d]
   simp only [go_sem,YA,YS,YM,YL,YE,YD,YB,YN,YR,reduceIte,reduceCtorEq,↓reduceIte]
   try trivial
  ·exact Nat.zero_le _
  ·rintro j hj
   dsimp only [x177_1,x177_1d,Z1,Z8,Zb,Zd]
   simp only [↓hcsPrf,entRightS,entCLoad,go_sem,YA,YS,YM,YL,YE,YD,YB,YN,YR,reduceIte,reduceCtorEq,↓reduceIte]
   try simp only [td,reduceCtorEq]
   by_cases hj':j < ss.length
   ·have w2:IntKind.i64.wrap ((j:Int)+1)=((j+1:Nat):Int):=i64_in _ (by omega)
    have hd:=firstK_next (ss:=ss) hj'
    dsimp only [dStop] at hd
    simp only [hj',w2,mdel_keys,td,reduceCtorEq]
    refine ⟨fun q=>⟨j+1,by omega,hj',rfl,?_⟩,fun q=>⟨j+1,by omega,hj',rfl,?_⟩⟩
    ·rw [hd,pickK,if_pos q]
    ·rw [hd,pickK,if_neg (by rw [q];simp)]
   obtain rfl:j=ss.length:=by omega
   rw [List.take_of_length_le (Nat.le_refl _)]
   simp only [hj',fst_keys,td,reduceCtorEq]
   have hlook:∀ j,j≤ss.length→((cabK ss j).map fun k=>(k,true)).length≤30000∧∀ k ∈ (cabK ss j).map fun k=>(k,true),(0≤k.1∧k.1 < rs.length)∧placesB (rl rs k.1)=true:=fun j hj=>look_ok hr hj
   refine ⟨hlook 0 (Nat.zero_le _),?_⟩
   refine XW_for 3000 x173_0d [0,1,9] Nat (fun j=>[(17,.val (.int .i64) (j:Int)),(6,.own 2011)])
    (fun j=>[(2011,.row 165 (.st (.cons (.int .i64) (.cons (.int .i64) (.int .i64)))) ((List.range (j+1)).map fun i=>sumK rs (cabK ss i))),(12,.mp .i64 .bool ((cabK ss j).map fun k=>(k,true)))]) (fun j=>j≤ss.length) (fun j=>ss.length - j) 0 ?_ ?_ ?_
   ·dsimp only [x173_0d]
    simp only [go_sem,YA,YS,YM,YL,YE,YD,YB,YN,YR,reduceIte,reduceCtorEq,↓reduceIte]
    exact ⟨rfl,rfl,rfl⟩
   ·exact Nat.zero_le _
   ·rintro j hj
    dsimp only [x173_0,x173_0d,x178,x174,Z1,Z5,Z7,Z8,Za,Zb,Zc,Zd]
    simp only [↓hcsPrf,entRightS,entCLoad,go_sem,YA,YS,YM,YL,YE,YD,YB,YN,YR,reduceIte,reduceCtorEq,↓reduceIte]
    try simp only [mset_keys,mdel_keys,fst_keys,td,reduceCtorEq]
    have w2:j < ss.length→IntKind.i64.wrap ((j:Int)+1)=((j+1:Nat):Int):=fun h=>i64_in _ (by omega)
    have hlen:(((List.range (j+1)).map fun i=>sumK rs (cabK ss i)).length+1) * 24≤140737488355328:=by rw [List.length_map,List.length_range];omega
    have hsucc:(List.range (j+1+1)).map (fun i=>sumK rs (cabK ss i))=(List.range (j+1)).map (fun i=>sumK rs (cabK ss i)) ++ [sumK rs (cabK ss (j+1))]:=by rw [List.range_succ,List.map_append];rfl
    have hst:cabK ss (j+1)=stopK (cabK ss j) (ss.getD j (0,false)):=rfl
    refine ⟨fun hj'=>⟨hj',fun q=>?_,fun q=>?_⟩,fun hj'=>?_⟩
    ·rw [stopK,if_pos q] at hst
     rw [← hst]
     exact ⟨hlook (j+1) hj',hlen,j+1,by omega,hj',w2 hj',hsucc.symm,rfl⟩
    ·rw [stopK,if_neg (by rw [q];simp)] at hst
     rw [← hst]
     exact ⟨hlook (j+1) hj',hlen,j+1,by omega,hj',w2 hj',hsucc.symm,rfl⟩
    ·obtain rfl:j=ss.length:=by omega
     unfold profF
     rw [if_pos h]
     unfold loadsF
     have:(List.range (ss.length+1)).map (fun i=>sumK rs (cabK ss i))=(List.range (ss.length+1)).map fun j=>afterF ss rs (j:Nat):=List.map_congr_left fun i hi=>cab_load hr (by rw [List.mem_range] at hi;omega)
     rw [this]
end T
end Go.Proofs.YtcnfmabhghhdnaaGreat
end
