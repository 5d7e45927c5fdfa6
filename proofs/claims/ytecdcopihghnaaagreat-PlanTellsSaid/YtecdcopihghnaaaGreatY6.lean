/- Parts of the proof, merged (by a program): definitions and lemmas for the law; no condition. -/
import Derived.Test.YtecdcopihghnaaaGreatY5
section
namespace Go.Proofs.YtecdcopihghnaaaGreat
set_option linter.unusedVariables false
set_option linter.unusedSimpArgs false
open Go.RowKit Go.IntWalk
namespace T
def entRft1:Ent:=⟨104,.cons (.int .i64) .nil,.bool,false,none,fun _=>True,fun x=>!decide (0≤(x.1:Int)∧(x.1:Int)≤2097152)⟩
def csRf1:List Ent:=[] theorem hcsRf1 (f:FuncId):findEnt csRf1 f=findEnt [] f:=rfl
theorem conRft1:Con Tryz.prog entRft1:=by
 refine con_is (C:=csRf1) x104 (by kernel_rfl) (by simp [csRf1]) fun x hx hf=>?_
 obtain ⟨(n:Int),_⟩:=x
 dsimp only [entRft1,x104];simp only [↓hcsRf1,go_sem,Nat.reduceAdd,Nat.reduceSub,Nat.reduceMul,Nat.reduceLT,Nat.reduceLeDiff,Nat.reduceEqDiff,Nat.reduceBEq,Nat.reduceBNe,List.reduceReplicate,reduceIte,reduceCtorEq,↓reduceIte];try simp only [td,reduceCtorEq]
 rw [Bool.eq_iff_iff]
 simp
 try omega
def entRfit:Ent:=⟨47,.cons (.st (.cons (.sl (.st (.cons (.int .i64) (.int .i64)))) (.cons (.sl (.st (.cons (.int .i64) (.int .i64)))) (.sl (.st (.cons (.int .i64) (.cons (.int .i64) (.int .i64)))))))) (.cons (.sl (.int .i64)) .nil),.bool,false,none,fun _=>True,fun x=>fitsG x.1 x.2.1⟩
def csRfi:List Ent:=[entRctR,entConFuncI,entRft1] theorem hcsRfi (f:FuncId):findEnt csRfi f=findEnt [entRctR,entConFuncI,entRft1] f:=rfl
theorem conRfit:Con Tryz.prog entRfit:=by
 refine con_is (C:=csRfi) x47 (by kernel_rfl) (by simp [csRfi,conRctR,conConFuncI,conRft1]) fun x hx hf=>?_
 obtain ⟨⟨(W:List DWin),(L:List DLeg),(R:List DRide)⟩,(g:List Int),_⟩:=x
 dsimp only [entRfit,x47];simp only [↓hcsRfi,entRctR,entConFuncI,entRft1,go_sem,Nat.reduceAdd,Nat.reduceSub,Nat.reduceMul,Nat.reduceLT,Nat.reduceLeDiff,Nat.reduceEqDiff,Nat.reduceBEq,Nat.reduceBNe,List.reduceReplicate,reduceIte,reduceCtorEq,↓reduceIte];try simp only [td,reduceCtorEq]
 unfold fitsG
 rw [not_any,Bool.and_assoc]
 congr 2
 exact decide_eq_decide.2 (by dsimp only;omega)
def entPlay:Ent:=⟨48,.cons (.sl (.int .i64)) (.cons (.sl (.int .i64)) .nil),(.sl (.int .i64)),false,none,fun x=>List.length (α:=Int) x.1=List.length (α:=Int) x.2.1+1∧List.length (α:=Int) x.1≤1000∧Within 0 2097152 x.1∧Within 0 1048576 x.2.1,fun x=>playF x.1 x.2.1⟩
def csPly:List Ent:=[] theorem hcsPly (f:FuncId):findEnt csPly f=findEnt [] f:=rfl
theorem conPlay:Con Tryz.prog entPlay:=by
 refine con_is (C:=csPly) x48 (by kernel_rfl) (by simp [csPly]) fun x hx hf=>?_
 obtain ⟨(g:List Int),(t:List Int),_⟩:=x
 obtain ⟨h1,h2,hg,ht⟩:=hx
 have hg:Within 0 2097152 g:=hg
 have ht:Within 0 1048576 t:=ht
 have h1:g.length=t.length+1:=h1
 have h2:g.length≤1000:=h2
 have hb:=tmF_bd hg ht
 dsimp only [entPlay,x48];simp only [↓hcsPly,go_sem,Nat.reduceAdd,Nat.reduceSub,Nat.reduceMul,Nat.reduceLT,Nat.reduceLeDiff,Nat.reduceEqDiff,Nat.reduceBEq,Nat.reduceBNe,List.reduceReplicate,reduceIte,reduceCtorEq,↓reduceIte];try simp only [td,reduceCtorEq]
 refine ⟨by omega,?_⟩
 refine XW_for 1000 x48_0d [] Nat (fun j=>[(15,.val (.int .i64) (j:Int)),(5,.own 5)]) (fun j=>[(5,.row 3 (.int .i64) ((List.range (j+1)).map (tmF g t)))]) (fun j=>j≤t.length) (fun j=>t.length - j) 0 ?_ ?_ ?_
 ·dsimp only [x48_0d]
  simp only [go_sem,Nat.reduceAdd,Nat.reduceSub,Nat.reduceMul,Nat.reduceLT,Nat.reduceLeDiff,Nat.reduceEqDiff,Nat.reduceBEq,Nat.reduceBNe,List.reduceReplicate,reduceIte,reduceCtorEq,↓reduceIte]
  exact ⟨rfl,rfl⟩
 ·exact Nat.zero_le _
 ·intro j hj
  have w2:j < t.length→IntKind.i64.wrap ((j:Int)+1)=((j+1:Nat):Int):=fun h=>i64_in _ (by omega)
  have hl:((List.range (j+1)).map (tmF g t)).length=j+1:=by rw [List.length_map,List.length_range]
  have hgd:((List.range (j+1)).map (tmF g t)).getD j 0=tmF g t j:=range_getD _ (by omega)
  have hbj:=hb j
  have htj:=ht.getD (Int.le_refl _) (by omega) j
  dsimp only [x48_0,x48_0d]
  simp only [↓hcsPly,hl,hgd,go_sem,Nat.reduceAdd,Nat.reduceSub,Nat.reduceMul,Nat.reduceLT,Nat.reduceLeDiff,Nat.reduceEqDiff,Nat.reduceBEq,Nat.reduceBNe,List.reduceReplicate,reduceIte,reduceCtorEq,↓reduceIte]
  try simp only [hl,hgd,td,reduceCtorEq]
  refine ⟨fun hj'=>?_,fun hj'=>?_⟩
  ·have w3:IntKind.i64.wrap (tmF g t j+t.getD j 0)=tmF g t j+t.getD j 0:=i64_in _ (by omega)
   rw [w2 hj',w3,Int.toNat_natCast]
   exact ⟨hj',⟨by omega,by omega,⟨by omega,by omega⟩,by omega⟩,j+1,by omega,hj',rfl,range_snoc (tmF g t) (j+1)⟩
  ·unfold playF
   rw [show j=t.length by omega]
def entRun:Ent:=⟨14,.cons (.st (.cons (.sl (.st (.cons (.int .i64) (.int .i64)))) (.cons (.sl (.st (.cons (.int .i64) (.int .i64)))) (.sl (.st (.cons (.int .i64) (.cons (.int .i64) (.int .i64)))))))) (.cons (.sl (.int .i64)) (.cons (.sl (.int .i64)) .nil)),.cons (.sl (.int .i64)) (.cons (.int .i64) .nil),true,none,fun _=>True,fun x=>((rnF x.1 x.2.1 x.2.2.1).1,(rnF x.1 x.2.1 x.2.2.1).2,())⟩
def csRun:List Ent:=[entRfit,entPlay] theorem hcsRun (f:FuncId):findEnt csRun f=findEnt [entRfit,entPlay] f:=rfl
theorem conRun:Con Tryz.prog entRun:=by
 refine con_is (C:=csRun) x14 (by kernel_rfl) (by simp [csRun,conRfit,conPlay]) fun x hx hf=>?_
 obtain ⟨⟨(W:List DWin),(L:List DLeg),(R:List DRide)⟩,(g:List Int),(t:List Int),_⟩:=x
 dsimp only [entRun,x14];simp only [↓hcsRun,entRfit,entPlay,go_sem,Nat.reduceAdd,Nat.reduceSub,Nat.reduceMul,Nat.reduceLT,Nat.reduceLeDiff,Nat.reduceEqDiff,Nat.reduceBEq,Nat.reduceBNe,List.reduceReplicate,reduceIte,reduceCtorEq,↓reduceIte];try simp only [td,reduceCtorEq]
 have hno:fitsG (W,L,R) g=false∨¬ t.length=L.length→rnF (W,L,R) g t=([],1):=fun h=>by
  unfold rnF
  rw [if_neg]
  rintro ⟨q1,q2⟩
  rcases h with h | h
  ·rw [h] at q1;cases q1
  ·exact h (tookB_iff.1 q2).1
 refine ⟨fun h=>by rw [hno h],?_⟩
 rintro ⟨hg,ht⟩
 obtain ⟨hr,hgl,hgw⟩:=fitsG_iff.1 hg
 have hc:=(rightC_iff.1 hr).1
 dsimp only at hgl hc
 refine XW_for 1000 x14_0d [0] Nat (fun j=>[(25,.val (.int .i64) (j:Int))]) (fun _=>[]) (fun j=>j≤L.length∧∀ k,k < j→(L.getD k (0,0)).1≤t.getD k 0∧t.getD k 0≤(L.getD k (0,0)).2) (fun j=>L.length - j) 0 ?_ ?_ ?_
 ·dsimp only [x14_0d]
  simp only [go_sem,Nat.reduceAdd,Nat.reduceSub,Nat.reduceMul,Nat.reduceLT,Nat.reduceLeDiff,Nat.reduceEqDiff,Nat.reduceBEq,Nat.reduceBNe,List.reduceReplicate,reduceIte,reduceCtorEq,↓reduceIte]
  try trivial
 ·exact ⟨Nat.zero_le _,fun k hk=>absurd hk (Nat.not_lt_zero _)⟩
 ·rintro j ⟨hj,hn⟩
  have w2:j < L.length→IntKind.i64.wrap ((j:Int)+1)=((j+1:Nat):Int):=fun h=>i64_in _ (by omega)
  dsimp only [x14_0,x14_0d]
  simp only [↓hcsRun,entRfit,entPlay,go_sem,Nat.reduceAdd,Nat.reduceSub,Nat.reduceMul,Nat.reduceLT,Nat.reduceLeDiff,Nat.reduceEqDiff,Nat.reduceBEq,Nat.reduceBNe,List.reduceReplicate,reduceIte,reduceCtorEq,↓reduceIte]
  try simp only [td,reduceCtorEq]
  refine ⟨fun hj'=>⟨hj',⟨by omega,fun q=>⟨q,by omega⟩⟩,fun q=>?_,fun q=>⟨j+1,by omega,⟨hj',fun k hk=>?_⟩,w2 hj'⟩⟩,fun hj'=>?_⟩
  ·unfold rnF
   rw [if_neg]
   rintro ⟨_,q2⟩
   have:=(tookB_iff.1 q2).2 j hj'
   dsimp only at this
   omega
  ·by_cases c:k=j
   ·subst c;exact q
   ·exact hn k (by omega)
  ·have htb:tookB L t=true:=tookB_iff.2 ⟨ht,fun k hk=>hn k (by omega)⟩
   refine ⟨⟨by omega,by omega,hgw,took_within hr htb⟩,?_⟩
   unfold rnF
   rw [if_pos ⟨hg,htb⟩]
def entWorst:Ent:=⟨20,.cons (.st (.cons (.sl (.st (.cons (.int .i64) (.int .i64)))) (.cons (.sl (.st (.cons (.int .i64) (.int .i64)))) (.sl (.st (.cons (.int .i64) (.cons (.int .i64) (.int .i64)))))))) (.cons (.sl (.int .i64)) .nil),.cons (.sl (.int .i64)) (.cons (.int .i64) .nil),true,none,fun _=>True,fun x=>((worstF x.1 x.2.1).1,(worstF x.1 x.2.1).2,())⟩
def csWst:List Ent:=[entRfit,entPlay] theorem hcsWst (f:FuncId):findEnt csWst f=findEnt [entRfit,entPlay] f:=rfl
theorem conWorst:Con Tryz.prog entWorst:=by
 refine con_is (C:=csWst) x20 (by kernel_rfl) (by simp [csWst,conRfit,conPlay]) fun x hx hf=>?_
 obtain ⟨⟨(W:List DWin),(L:List DLeg),(R:List DRide)⟩,(g:List Int),_⟩:=x
 dsimp only [entWorst,x20];simp only [↓hcsWst,entRfit,entPlay,go_sem,Nat.reduceAdd,Nat.reduceSub,Nat.reduceMul,Nat.reduceLT,Nat.reduceLeDiff,Nat.reduceEqDiff,Nat.reduceBEq,Nat.reduceBNe,List.reduceReplicate,reduceIte,reduceCtorEq,↓reduceIte];try simp only [td,reduceCtorEq]
 refine ⟨fun h=>by unfold worstF;rw [if_neg (by rw [h];simp)],fun hg=>?_⟩
 obtain ⟨hr,hgl,hgw⟩:=fitsG_iff.1 hg
 have hc:=(rightC_iff.1 hr).1
 dsimp only at hgl hc
 refine XW_for 1000 x20_0d [0,1] Nat (fun j=>[(16,.val (.int .i64) (j:Int)),(6,.own 7)]) (fun j=>[(7,.row 3 (.int .i64) ((highsF L).take j))]) (fun j=>j≤L.length) (fun j=>L.length - j) 0 ?_ ?_ ?_
 ·dsimp only [x20_0d]
  simp only [go_sem,Nat.reduceAdd,Nat.reduceSub,Nat.reduceMul,Nat.reduceLT,Nat.reduceLeDiff,Nat.reduceEqDiff,Nat.reduceBEq,Nat.reduceBNe,List.reduceReplicate,reduceIte,reduceCtorEq,↓reduceIte]
  try trivial
 ·exact Nat.zero_le _
 ·intro j hj
  have w2:j < L.length→IntKind.i64.wrap ((j:Int)+1)=((j+1:Nat):Int):=fun h=>i64_in _ (by omega)
  have hs:j < L.length→(highsF L).take j ++ [(L.getD j (0,0)).2]=(highsF L).take (j+1):=fun h=>by
   rw [List.take_succ_eq_append_getElem (by rw [highs_len];exact h),← highs_getD]
   simp [List.getD,highs_len,h]
  have hlt:((highsF L).take j).length=j:=by rw [List.length_take,highs_len];omega
  dsimp only [x20_0,x20_0d]
  simp only [↓hcsWst,entRfit,entPlay,hlt,go_sem,Nat.reduceAdd,Nat.reduceSub,Nat.reduceMul,Nat.reduceLT,Nat.reduceLeDiff,Nat.reduceEqDiff,Nat.reduceBEq,Nat.reduceBNe,List.reduceReplicate,reduceIte,reduceCtorEq,↓reduceIte]
  try simp only [hlt,td,reduceCtorEq]
  refine ⟨fun hj'=>⟨hj',by omega,j+1,by omega,hj',w2 hj',hs hj'⟩,fun hj'=>?_⟩
  have e:(highsF L).take j=highsF L:=List.take_of_length_le (by rw [highs_len];omega)
  rw [e]
  refine ⟨⟨by omega,by omega,hgw,highs_within hr⟩,?_⟩
  unfold worstF
  rw [if_pos hg]
def entKeep:Ent:=⟨97,.cons (.st (.cons (.sl (.st (.cons (.int .i64) (.int .i64)))) (.cons (.sl (.st (.cons (.int .i64) (.int .i64)))) (.sl (.st (.cons (.int .i64) (.cons (.int .i64) (.int .i64)))))))) (.cons (.sl (.int .i64)) .nil),.bool,false,none,fun _=>True,fun x=>keepsF x.1 x.2.1⟩
def csKep:List Ent:=[entRctR] theorem hcsKep (f:FuncId):findEnt csKep f=findEnt [entRctR] f:=rfl
theorem conKeep:Con Tryz.prog entKeep:=by
 refine con_is (C:=csKep) z97 (by kernel_rfl) (by simp [csKep,conRctR]) fun x hx hf=>?_
 obtain ⟨⟨(W:List DWin),(L:List DLeg),(R:List DRide)⟩,(t:List Int),_⟩:=x
 dsimp only [entKeep,z97,z92,z150,x152];simp only [↓hcsKep,entRctR,go_sem,Nat.reduceAdd,Nat.reduceSub,Nat.reduceMul,Nat.reduceLT,Nat.reduceLeDiff,Nat.reduceEqDiff,Nat.reduceBEq,Nat.reduceBNe,List.reduceReplicate,reduceIte,reduceCtorEq,↓reduceIte]
 try simp only [td,reduceCtorEq]
 have hW:W.length≤9223372036854775807:=hf.1.1.1
 have hno:rightC (W,L,R)=false∨¬ t.length=W.length→false=keepsF (W,L,R) t:=fun h=>by
  symm
  rw [← Bool.not_eq_true]
  intro q
  obtain ⟨q1,q2,_⟩:=keepsF_iff.1 q
  rcases h with h | h
  ·rw [h] at q1;cases q1
  ·exact h q2
 refine ⟨hno,?_⟩
 rintro ⟨hr,hl⟩
 have hc:=(rightC_iff.1 hr).1
 dsimp only at hc
 refine XW_for 1000 z97_0d [0,1] Nat (fun j=>[(21,.val (.int .i64) (j:Int))]) (fun _=>[]) (fun j=>j≤W.length∧∀ k,k < j→(W.getD k (0,0)).1≤t.getD k 0∧t.getD k 0≤(W.getD k (0,0)).2) (fun j=>W.length - j) 0 ?_ ?_ ?_
 ·dsimp only [z97_0d]
  simp only [go_sem,Nat.reduceAdd,Nat.reduceSub,Nat.reduceMul,Nat.reduceLT,Nat.reduceLeDiff,Nat.reduceEqDiff,Nat.reduceBEq,Nat.reduceBNe,List.reduceReplicate,reduceIte,reduceCtorEq,↓reduceIte]
  try trivial
 ·exact ⟨Nat.zero_le _,fun k hk=>absurd hk (Nat.not_lt_zero _)⟩
 ·rintro j ⟨hj,hn⟩
  have w2:j < W.length→IntKind.i64.wrap ((j:Int)+1)=((j+1:Nat):Int):=fun h=>i64_in _ (by omega)
  dsimp only [z97_0,z97_0d,z97,z92,z150,x152]
  simp only [↓hcsKep,entRctR,go_sem,Nat.reduceAdd,Nat.reduceSub,Nat.reduceMul,Nat.reduceLT,Nat.reduceLeDiff,Nat.reduceEqDiff,Nat.reduceBEq,Nat.reduceBNe,List.reduceReplicate,reduceIte,reduceCtorEq,↓reduceIte]
  try simp only [td,reduceCtorEq]
  refine ⟨fun hj'=>⟨hj',⟨by omega,fun q=>⟨q,by omega⟩⟩,fun q=>?_,fun q=>⟨j+1,by omega,⟨hj',fun k hk=>?_⟩,w2 hj'⟩⟩,fun hj'=>?_⟩
  ·symm
   rw [← Bool.not_eq_true]
   intro q2
   have:=(keepsF_iff.1 q2).2.2.1 j hj'
   dsimp only at this
   omega
  ·by_cases c:k=j
   ·subst c;exact q
   ·exact hn k (by omega)
  ·have hn2:∀ k,k < W.length→(W.getD k (0,0)).1≤t.getD k 0∧t.getD k 0≤(W.getD k (0,0)).2:=fun k hk=>hn k (by omega)
   have ht0:∀ k,0≤t.getD k 0∧t.getD k 0≤1048576:=fun k=>by
    by_cases c:k < W.length
    ·have h1:=hn2 k c
     have h2:=right_win hr (k:=k) c
     dsimp only at h2
     omega
    ·rw [List.getD_eq_getElem?_getD,List.getElem?_eq_none (by omega)]
     exact ⟨Int.le_refl _,by show (0:Int)≤1048576;omega⟩
   refine XW_for 2000 z150_0d [0,1] Nat (fun i=>[(8,.val (.int .i64) (i:Int))]) (fun _=>[]) (fun i=>i≤R.length∧∀ k,k < i→t.getD (R.getD k (0,0,0)).2.1.toNat 0 - t.getD (R.getD k (0,0,0)).1.toNat 0≤(R.getD k (0,0,0)).2.2) (fun i=>R.length - i) 0 ?_ ?_ ?_
   ·dsimp only [z150_0d]
    simp only [go_sem,Nat.reduceAdd,Nat.reduceSub,Nat.reduceMul,Nat.reduceLT,Nat.reduceLeDiff,Nat.reduceEqDiff,Nat.reduceBEq,Nat.reduceBNe,List.reduceReplicate,reduceIte,reduceCtorEq,↓reduceIte]
    try trivial
   ·exact ⟨Nat.zero_le _,fun k hk=>absurd hk (Nat.not_lt_zero _)⟩
   ·rintro i ⟨hi,hm⟩
    have w3:i < R.length→IntKind.i64.wrap ((i:Int)+1)=((i+1:Nat):Int):=fun h=>i64_in _ (by omega)
    dsimp only [z150_0,z150_0d,z97,z92,z150,x152]
    simp only [↓hcsKep,entRctR,go_sem,Nat.reduceAdd,Nat.reduceSub,Nat.reduceMul,Nat.reduceLT,Nat.reduceLeDiff,Nat.reduceEqDiff,Nat.reduceBEq,Nat.reduceBNe,List.reduceReplicate,reduceIte,reduceCtorEq,↓reduceIte]
    try simp only [td,reduceCtorEq]
    refine ⟨fun hi'=>?_,fun hi'=>?_⟩
    ·have hrd:=right_ride hr (k:=i) hi'
     dsimp only at hrd
     have e1:=ht0 (R.getD i (0,0,0)).2.1.toNat
     have e2:=ht0 (R.getD i (0,0,0)).1.toNat
     have hw:IntKind.i64.wrap (t.getD (R.getD i (0,0,0)).2.1.toNat 0 - t.getD (R.getD i (0,0,0)).1.toNat 0)=t.getD (R.getD i (0,0,0)).2.1.toNat 0 - t.getD (R.getD i (0,0,0)).1.toNat 0:=i64_in _ (by omega)
     rw [hw]
     refine ⟨hi',⟨⟨by omega,by omega⟩,by omega,by omega⟩,fun q=>?_,fun q=>⟨i+1,by omega,⟨hi',fun k hk=>?_⟩,w3 hi'⟩⟩
     ·symm
      rw [Bool.not_true,← Bool.not_eq_true]
      intro q2
      have:=(keepsF_iff.1 q2).2.2.2 _ (getD_mem2 (d:=(0,0,0)) hi')
      dsimp only at this
      omega
     ·by_cases c:k=i
      ·subst c;exact q
      ·exact hm k (by omega)
    ·symm
     refine (keepsF_iff.2 ⟨hr,hl,hn2,fun r hrm=>?_⟩).trans (by decide)
     obtain ⟨k,hk,rfl⟩:=List.getElem_of_mem hrm
     have h1:=hm k (by dsimp only at hk;omega)
     have:R.getD k (0,0,0)=R[k]:=by simp [List.getD,hk]
     rw [this] at h1
     exact h1
end T
end Go.Proofs.YtecdcopihghnaaaGreat
end
section
namespace Go.Proofs.YtecdcopihghnaaaGreat
set_option linter.unusedVariables false
set_option linter.unusedSimpArgs false
open Go.RowKit Go.IntWalk
namespace T
def entWin:Ent:=⟨130,.cons (.int .i64) (.cons (.int .i64) (.cons (.int .i64) .nil)),.bool,false,none,fun _=>True,fun x=>decide ((x.2.1:Int)≤(x.1:Int)∧(x.1:Int)≤(x.2.2.1:Int))⟩
def csWi:List Ent:=[] theorem hcsWi (f:FuncId):findEnt csWi f=findEnt [] f:=rfl
theorem conWin:Con Tryz.prog entWin:=by
 refine con_is (C:=csWi) x130 (by kernel_rfl) (by simp [csWi]) fun x hx hf=>?_
 obtain ⟨(n:Int),(a:Int),(b:Int),_⟩:=x
 dsimp only [entWin,x130];simp only [↓hcsWi,go_sem,Nat.reduceAdd,Nat.reduceSub,Nat.reduceMul,Nat.reduceLT,Nat.reduceLeDiff,Nat.reduceEqDiff,Nat.reduceBEq,Nat.reduceBNe,List.reduceReplicate,reduceIte,reduceCtorEq,↓reduceIte];try simp only [td,reduceCtorEq]
 rw [Bool.eq_iff_iff]
 simp
def entWk1:Ent:=⟨129,.cons (.st (.cons (.int .i64) (.int .i64))) .nil,.bool,false,none,fun _=>True,fun x=>!legB x.1⟩
def csWk1:List Ent:=[entWin] theorem hcsWk1 (f:FuncId):findEnt csWk1 f=findEnt [entWin] f:=rfl
theorem conWk1:Con Tryz.prog entWk1:=by
 refine con_is (C:=csWk1) x129 (by kernel_rfl) (by simp [csWk1,conWin]) fun x hx hf=>?_
 obtain ⟨⟨(a:Int),(b:Int)⟩,_⟩:=x
 dsimp only [entWk1,x129];simp only [↓hcsWk1,entWin,go_sem,Nat.reduceAdd,Nat.reduceSub,Nat.reduceMul,Nat.reduceLT,Nat.reduceLeDiff,Nat.reduceEqDiff,Nat.reduceBEq,Nat.reduceBNe,List.reduceReplicate,reduceIte,reduceCtorEq,↓reduceIte];try simp only [td,reduceCtorEq]
 unfold legB
 rw [Bool.eq_iff_iff]
 simp
 try omega
def entWkR:Ent:=⟨70,.cons (.st (.cons (.int .i64) (.cons (.int .i64) (.int .i64)))) (.cons (.sl (.st (.cons (.int .i64) (.int .i64)))) (.cons (.sl (.st (.cons (.int .i64) (.int .i64)))) .nil)),.bool,false,none,fun _=>True,fun x=>rightK x.1 x.2.1 x.2.2.1⟩
def csWkR:List Ent:=[entWin,entWk1,entConFuncLeg] theorem hcsWkR (f:FuncId):findEnt csWkR f=findEnt [entWin,entWk1,entConFuncLeg] f:=rfl
theorem conWkR:Con Tryz.prog entWkR:=by
 refine con_is (C:=csWkR) x70 (by kernel_rfl) (by simp [csWkR,conWin,conWk1,conConFuncLeg]) fun x hx hf=>?_
 obtain ⟨⟨(a:Int),(b:Int),(d:Int)⟩,(l:List DLeg),(w:List DLeg),_⟩:=x
 dsimp only [entWkR,x70];simp only [↓hcsWkR,entWin,entWk1,entConFuncLeg,go_sem,Nat.reduceAdd,Nat.reduceSub,Nat.reduceMul,Nat.reduceLT,Nat.reduceLeDiff,Nat.reduceEqDiff,Nat.reduceBEq,Nat.reduceBNe,List.reduceReplicate,reduceIte,reduceCtorEq,↓reduceIte];try simp only [td,reduceCtorEq]
 unfold rightK longB
 rw [not_any,not_any,Bool.eq_iff_iff]
 simp only [Bool.and_eq_true,decide_eq_true_eq,beq_iff_eq]
 constructor
 ·rintro ⟨⟨⟨⟨⟨⟨h1,h2⟩,h3⟩,h4⟩,h5⟩,h6⟩,h7⟩
  exact ⟨⟨h1,h2,h3⟩,⟨by omega,by omega⟩,h6,h7⟩
 ·rintro ⟨⟨h1,h2,h3⟩,⟨h4,h5⟩,h6,h7⟩
  exact ⟨⟨⟨⟨⟨⟨h1,h2⟩,h3⟩,by omega⟩,by omega⟩,h6⟩,h7⟩
def entWalk:Ent:=⟨153,.cons (.st (.cons (.int .i64) (.cons (.int .i64) (.int .i64)))) (.cons (.sl (.st (.cons (.int .i64) (.int .i64)))) (.cons (.sl (.st (.cons (.int .i64) (.int .i64)))) .nil)),.cons (.int .i64) (.cons (.int .i64) (.cons (.int .i64) .nil)),true,none,fun x=>rightK x.1 x.2.1 x.2.2.1=true,fun x=>(if fstK x.1 x.2.1 x.2.2.1 < 0 then drvF (x.1:DShift).2.1 (highsF x.2.1) (lowsF x.2.2.1) (List.length (α:=DLeg) x.2.1) else 0,if fstK x.1 x.2.1 x.2.2.1 < 0 then wrkF (highsF x.2.1) (highsF x.2.2.1) (List.length (α:=DLeg) x.2.1) else 0,fstK x.1 x.2.1 x.2.2.1,())⟩
def csWlk:List Ent:=[] theorem hcsWlk (f:FuncId):findEnt csWlk f=findEnt [] f:=rfl
theorem conWalk:Con Tryz.prog entWalk:=by
 refine con_is (C:=csWlk) x153 (by kernel_rfl) (by simp [csWlk]) fun x hx hf=>?_
 obtain ⟨⟨(D:Int),(B:Int),(K:Int)⟩,(l:List DLeg),(w:List DLeg),_⟩:=x
 have hx:rightK (D,B,K) l w=true:=hx
 obtain ⟨_,⟨h1,h2⟩,h3,h4⟩:=rightK_iff.1 hx
 have hd:=fun j=>drv_bd (rest:=B) (w:=lowsF w) (legs_high h3) j
 have hk:=fun j=>wrk_bd (legs_high h3) (legs_high h4) j
 dsimp only [entWalk,x153];simp only [↓hcsWlk,go_sem,Nat.reduceAdd,Nat.reduceSub,Nat.reduceMul,Nat.reduceLT,Nat.reduceLeDiff,Nat.reduceEqDiff,Nat.reduceBEq,Nat.reduceBNe,List.reduceReplicate,reduceIte,reduceCtorEq,↓reduceIte];try simp only [td,reduceCtorEq]
 refine XW_for 1000 x153_0d [0] Nat (fun j=>[(13,.val (.int .i64) (j:Int)),(6,.val (.int .i64) (drvF B (highsF l) (lowsF w) j)),(7,.val (.int .i64) (wrkF (highsF l) (highsF w) j))]) (fun _=>[]) (fun j=>j≤l.length∧∀ k,k < j→badK (D,B,K) l w k=false) (fun j=>l.length - j) 0 ?_ ?_ ?_
 ·dsimp only [x153_0d]
  simp only [go_sem,Nat.reduceAdd,Nat.reduceSub,Nat.reduceMul,Nat.reduceLT,Nat.reduceLeDiff,Nat.reduceEqDiff,Nat.reduceBEq,Nat.reduceBNe,List.reduceReplicate,reduceIte,reduceCtorEq,↓reduceIte]
  exact ⟨rfl,rfl,rfl⟩
 ·exact ⟨Nat.zero_le _,fun k hk=>absurd hk (Nat.not_lt_zero _)⟩
 rintro j ⟨hj,hn⟩
 by_cases hj':j < l.length
 ·have w2:IntKind.i64.wrap ((j:Int)+1)=((j+1:Nat):Int):=i64_in _ (by omega)
  have hjw:j < w.length:=by omega
  have hd1:=hd (j+1)
  have hk1:=hk (j+1)
  have ed:drvF B (highsF l) (lowsF w) (j+1)=(if (w.getD j (0,0)).1 ≥ B then 0 else drvF B (highsF l) (lowsF w) j)+(l.getD j (0,0)).2:=by
   show (if (lowsF w).getD j 0 ≥ B then 0 else _)+(highsF l).getD j 0=_
   rw [lows_getD,highs_getD]
  have ek:wrkF (highsF l) (highsF w) (j+1)=wrkF (highsF l) (highsF w) j+(if 0 < j then (w.getD j (0,0)).2 else 0)+(l.getD j (0,0)).2:=by
   show _+(if 0 < j then (highsF w).getD j 0 else 0)+(highsF l).getD j 0=_
   rw [highs_getD,highs_getD]
  dsimp only [x153_0,x153_0d]
  simp only [↓hcsWlk,entWalk,hj',hjw,w2,go_sem,Nat.reduceAdd,Nat.reduceSub,Nat.reduceMul,Nat.reduceLT,Nat.reduceLeDiff,Nat.reduceEqDiff,Nat.reduceBEq,Nat.reduceBNe,List.reduceReplicate,reduceIte,reduceCtorEq,↓reduceIte]
  try simp only [hj',hjw,w2,td,reduceCtorEq]
  have hdj:=hd j
  have hkj:=hk j
  have hl1:=(legs_high h3).getD (Int.le_refl _) (by omega) j
  have hw1:=(legs_high h4).getD (Int.le_refl _) (by omega) j
  rw [highs_getD] at hl1 hw1
  have fin:(D < drvF B (highsF l) (lowsF w) (j+1)∨K < wrkF (highsF l) (highsF w) (j+1)→(0,0,(j:Int),())=(if fstK (D,B,K) l w < 0 then drvF B (highsF l) (lowsF w) l.length else 0,if fstK (D,B,K) l w < 0 then wrkF (highsF l) (highsF w) l.length else 0,fstK (D,B,K) l w,())) ∧
    (drvF B (highsF l) (lowsF w) (j+1)≤D∧wrkF (highsF l) (highsF w) (j+1)≤K→∃ x':Nat,l.length - x' < l.length - j∧(x' ≤ l.length∧∀ k:Nat,k < x'→badK (D,B,K) l w k=false)∧j+1=x'∧drvF B (highsF l) (lowsF w) (j+1)=drvF B (highsF l) (lowsF w) x'∧wrkF (highsF l) (highsF w) (j+1)=wrkF (highsF l) (highsF w) x'):=by
   have hbk:badK (D,B,K) l w j=(decide (D < drvF B (highsF l) (lowsF w) (j+1)) || decide (K < wrkF (highsF l) (highsF w) (j+1))):=rfl
   refine ⟨fun h=>?_,fun h=>⟨j+1,by omega,⟨hj',fun k hk=>?_⟩,rfl,rfl,rfl⟩⟩
   ·have:fstK (D,B,K) l w=j:=fstK_at hj' hn (by
     rw [hbk,Bool.or_eq_true,decide_eq_true_eq,decide_eq_true_eq]
     exact h)
    rw [this,if_neg (by omega),if_neg (by omega)]
   ·by_cases c:k=j
    ·subst c
     rw [hbk,Bool.or_eq_false_iff,decide_eq_false_iff_not,decide_eq_false_iff_not]
     omega
    ·exact hn k (by omega)
  refine ⟨fun hb=>⟨fun hp=>?_,fun hp=>?_⟩,fun hb=>⟨fun hp=>?_,fun hp=>?_⟩⟩
  ·rw [if_pos hb] at ed
   rw [if_pos (by omega)] at ek
   rw [i64_in (0+(l.getD j (0,0)).2) (by omega),← ed,i64_in (wrkF (highsF l) (highsF w) j+(w.getD j (0,0)).2) (by omega),i64_in (wrkF (highsF l) (highsF w) j+(w.getD j (0,0)).2+(l.getD j (0,0)).2) (by omega),← ek]
   exact fin
  ·rw [if_pos hb] at ed
   rw [if_neg (by omega),Int.add_zero] at ek
   rw [i64_in (0+(l.getD j (0,0)).2) (by omega),← ed,i64_in (wrkF (highsF l) (highsF w) j+(l.getD j (0,0)).2) (by omega),← ek]
   exact fin
  ·rw [if_neg (by omega)] at ed
   rw [if_pos (by omega)] at ek
   rw [i64_in (drvF B (highsF l) (lowsF w) j+(l.getD j (0,0)).2) (by omega),← ed,i64_in (wrkF (highsF l) (highsF w) j+(w.getD j (0,0)).2) (by omega),i64_in (wrkF (highsF l) (highsF w) j+(w.getD j (0,0)).2+(l.getD j (0,0)).2) (by omega),← ek]
   exact fin
  ·rw [if_neg (by omega)] at ed
   rw [if_neg (by omega),Int.add_zero] at ek
   rw [i64_in (drvF B (highsF l) (lowsF w) j+(l.getD j (0,0)).2) (by omega),← ed,i64_in (wrkF (highsF l) (highsF w) j+(l.getD j (0,0)).2) (by omega),← ek]
   exact fin
 ·dsimp only [x153_0,x153_0d]
  simp only [↓hcsWlk,entWalk,hj',go_sem,Nat.reduceAdd,Nat.reduceSub,Nat.reduceMul,Nat.reduceLT,Nat.reduceLeDiff,Nat.reduceEqDiff,Nat.reduceBEq,Nat.reduceBNe,List.reduceReplicate,reduceIte,reduceCtorEq,↓reduceIte]
  try simp only [hj',td,reduceCtorEq]
  obtain rfl:j=l.length:=by omega
  rw [fstK_none hn,if_pos (by decide),if_pos (by decide)]
def entWCk:Ent:=⟨99,.cons (.st (.cons (.int .i64) (.cons (.int .i64) (.int .i64)))) (.cons (.sl (.st (.cons (.int .i64) (.int .i64)))) (.cons (.sl (.st (.cons (.int .i64) (.int .i64)))) .nil)),.cons (.int .i64) (.cons (.int .i64) .nil),true,none,fun _=>True,fun x=>((checkK x.1 x.2.1 x.2.2.1).1,(checkK x.1 x.2.1 x.2.2.1).2,())⟩
def csWCk:List Ent:=[entWkR,entWalk] theorem hcsWCk (f:FuncId):findEnt csWCk f=findEnt [entWkR,entWalk] f:=rfl
theorem conWCk:Con Tryz.prog entWCk:=by
 refine con_is (C:=csWCk) x99 (by kernel_rfl) (by simp [csWCk,conWkR,conWalk]) fun x hx hf=>?_
 obtain ⟨⟨(D:Int),(B:Int),(K:Int)⟩,(l:List DLeg),(w:List DLeg),_⟩:=x
 dsimp only [entWCk,x99];simp only [↓hcsWCk,entWkR,entWalk,go_sem,Nat.reduceAdd,Nat.reduceSub,Nat.reduceMul,Nat.reduceLT,Nat.reduceLeDiff,Nat.reduceEqDiff,Nat.reduceBEq,Nat.reduceBNe,List.reduceReplicate,reduceIte,reduceCtorEq,↓reduceIte];try simp only [td,reduceCtorEq]
 refine ⟨fun h=>by unfold checkK;rw [if_pos h],fun h=>⟨h,fun q=>?_,fun q=>?_⟩⟩
 ·unfold checkK
  rw [if_neg (by rw [h];simp),if_neg (by omega)]
 ·unfold checkK
  rw [if_neg (by rw [h];simp),if_pos (by omega)]
end T
end Go.Proofs.YtecdcopihghnaaaGreat
end
section
namespace Go.Proofs.YtecdcopihghnaaaGreat
set_option linter.unusedVariables false
set_option linter.unusedSimpArgs false
open Go.RowKit Go.IntWalk
namespace T
def entLong:Ent:=⟨132,.cons (.int .i64) .nil,.bool,false,none,fun _=>True,fun x=>longB x.1⟩
def csLng:List Ent:=[] theorem hcsLng (f:FuncId):findEnt csLng f=findEnt [] f:=rfl
theorem conLong:Con Tryz.prog entLong:=by
 refine con_is (C:=csLng) x132 (by kernel_rfl) (by simp [csLng]) fun x hx hf=>?_
 obtain ⟨(n:Int),_⟩:=x
 dsimp only [entLong,x132];simp only [↓hcsLng,go_sem,Nat.reduceAdd,Nat.reduceSub,Nat.reduceMul,Nat.reduceLT,Nat.reduceLeDiff,Nat.reduceEqDiff,Nat.reduceBEq,Nat.reduceBNe,List.reduceReplicate,reduceIte,reduceCtorEq,↓reduceIte];try simp only [td,reduceCtorEq]
 unfold longB
 rw [Bool.eq_iff_iff]
 simp
def entLg19:Ent:=⟨133,.cons (.st (.cons (.int .i64) (.int .i64))) .nil,.bool,false,none,fun _=>True,fun x=>legB x.1⟩
def csLg9:List Ent:=[] theorem hcsLg9 (f:FuncId):findEnt csLg9 f=findEnt [] f:=rfl
theorem conLg19:Con Tryz.prog entLg19:=by
 refine con_is (C:=csLg9) x133 (by kernel_rfl) (by simp [csLg9]) fun x hx hf=>?_
 obtain ⟨⟨(a:Int),(b:Int)⟩,_⟩:=x
 dsimp only [entLg19,x133];simp only [↓hcsLg9,go_sem,Nat.reduceAdd,Nat.reduceSub,Nat.reduceMul,Nat.reduceLT,Nat.reduceLeDiff,Nat.reduceEqDiff,Nat.reduceBEq,Nat.reduceBNe,List.reduceReplicate,reduceIte,reduceCtorEq,↓reduceIte];try simp only [td,reduceCtorEq]
 unfold legB
 rw [Bool.eq_iff_iff]
 simp
 try omega
def entRi19:Ent:=⟨73,.cons (.st (.cons (.int .i64) (.cons (.int .i64) (.int .i64)))) (.cons (.sl (.st (.cons (.int .i64) (.int .i64)))) (.cons (.sl (.st (.cons (.int .i64) (.int .i64)))) .nil)),.bool,false,none,fun _=>True,fun x=>rightK x.1 x.2.1 x.2.2.1⟩
def csRi9:List Ent:=[entLong,entLg19] theorem hcsRi9 (f:FuncId):findEnt csRi9 f=findEnt [entLong,entLg19] f:=rfl
theorem conRi19:Con Tryz.prog entRi19:=by
 refine con_is (C:=csRi9) x73 (by kernel_rfl) (by simp [csRi9,conLong,conLg19]) fun x hx hf=>?_
 obtain ⟨⟨(D:Int),(B:Int),(K:Int)⟩,(l:List DLeg),(w:List DLeg),_⟩:=x
 dsimp only [entRi19,x73];simp only [↓hcsRi9,entLong,entLg19,go_sem,Nat.reduceAdd,Nat.reduceSub,Nat.reduceMul,Nat.reduceLT,Nat.reduceLeDiff,Nat.reduceEqDiff,Nat.reduceBEq,Nat.reduceBNe,List.reduceReplicate,reduceIte,reduceCtorEq,↓reduceIte];try simp only [td,reduceCtorEq]
 have hll:l.length≤9223372036854775807:=hf.2.1.1
 have hno:(rightK (D,B,K) l w=true→False)→false=rightK (D,B,K) l w:=fun h=>by
  symm
  rw [← Bool.not_eq_true]
  exact h
 refine ⟨fun h=>hno fun q=>?_,?_⟩
 ·obtain ⟨⟨q1,q2,q3⟩,⟨q4,q5⟩,_⟩:=rightK_iff.1 q
  dsimp only at q1 q2 q3
  rcases h with (((h | h) | h) | h) | h
  ·rw [h] at q1;cases q1
  ·rw [h] at q2;cases q2
  ·rw [h] at q3;cases q3
  ·omega
  ·exact h q5
 rintro ⟨⟨⟨⟨h1,h2⟩,h3⟩,h4⟩,h5⟩
 refine XW_for 1000 x73_0d [] Nat (fun j=>[(7,.val (.int .i64) (j:Int))]) (fun _=>[]) (fun j=>j≤l.length∧∀ k,k < j→legB (l.getD k (0,0))=true∧legB (w.getD k (0,0))=true) (fun j=>l.length - j) 0 ?_ ?_ ?_
 ·dsimp only [x73_0d]
  simp only [go_sem,Nat.reduceAdd,Nat.reduceSub,Nat.reduceMul,Nat.reduceLT,Nat.reduceLeDiff,Nat.reduceEqDiff,Nat.reduceBEq,Nat.reduceBNe,List.reduceReplicate,reduceIte,reduceCtorEq,↓reduceIte]
  try trivial
 ·exact ⟨Nat.zero_le _,fun k hk=>absurd hk (Nat.not_lt_zero _)⟩
 rintro j ⟨hj,hn⟩
 have w2:j < l.length→IntKind.i64.wrap ((j:Int)+1)=((j+1:Nat):Int):=fun h=>i64_in _ (by omega)
 dsimp only [x73_0,x73_0d]
 simp only [↓hcsRi9,entLong,entLg19,go_sem,Nat.reduceAdd,Nat.reduceSub,Nat.reduceMul,Nat.reduceLT,Nat.reduceLeDiff,Nat.reduceEqDiff,Nat.reduceBEq,Nat.reduceBNe,List.reduceReplicate,reduceIte,reduceCtorEq,↓reduceIte]
 try simp only [td,reduceCtorEq]
 refine ⟨fun hj'=>⟨⟨hj',fun q=>⟨q,by omega⟩⟩,fun q=>hno fun z=>?_,fun q=>⟨j+1,by omega,⟨hj',fun k hk=>?_⟩,w2 hj'⟩⟩,fun hj'=>?_⟩
 ·obtain ⟨_,_,q1,q2⟩:=rightK_iff.1 z
  rcases q with q | q
  ·rw [q1 _ (getD_mem2 (d:=(0,0)) hj')] at q;cases q
  ·rw [q2 _ (getD_mem2 (d:=(0,0)) (by omega))] at q;cases q
 ·by_cases c:k=j
  ·subst c;exact q
  ·exact hn k (by omega)
 ·symm
  refine rightK_iff.2 ⟨⟨h1,h2,h3⟩,⟨by omega,h5⟩,fun x hx=>?_,fun x hx=>?_⟩
  ·obtain ⟨k,hk,rfl⟩:=List.getElem_of_mem hx
   have:=(hn k (by omega)).1
   rwa [show l.getD k (0,0)=l[k] by simp [List.getD,hk]] at this
  ·obtain ⟨k,hk,rfl⟩:=List.getElem_of_mem hx
   have:=(hn k (by omega)).2
   rwa [show w.getD k (0,0)=w[k] by simp [List.getD,hk]] at this
def entHs19:Ent:=⟨118,.cons (.sl (.st (.cons (.int .i64) (.int .i64)))) .nil,(.sl (.int .i64)),false,none,fun x=>List.length (α:=DLeg) x.1≤1000,fun x=>highsF x.1⟩
def csHs9:List Ent:=[] theorem hcsHs9 (f:FuncId):findEnt csHs9 f=findEnt [] f:=rfl
theorem conHs19:Con Tryz.prog entHs19:=by
 refine con_is (C:=csHs9) x118 (by kernel_rfl) (by simp [csHs9]) fun x hx hf=>?_
 obtain ⟨(L:List DLeg),_⟩:=x
 have hL:L.length≤1000:=hx
 dsimp only [entHs19,x118];simp only [↓hcsHs9,go_sem,Nat.reduceAdd,Nat.reduceSub,Nat.reduceMul,Nat.reduceLT,Nat.reduceLeDiff,Nat.reduceEqDiff,Nat.reduceBEq,Nat.reduceBNe,List.reduceReplicate,reduceIte,reduceCtorEq,↓reduceIte];try simp only [td,reduceCtorEq]
 refine XW_for 1000 x118_0d [0] Nat (fun j=>[(4,.val (.int .i64) (j:Int)),(3,.own 7)]) (fun j=>[(7,.row 3 (.int .i64) ((highsF L).take j))]) (fun j=>j≤L.length) (fun j=>L.length - j) 0 ?_ ?_ ?_
 ·dsimp only [x118_0d]
  simp only [go_sem,Nat.reduceAdd,Nat.reduceSub,Nat.reduceMul,Nat.reduceLT,Nat.reduceLeDiff,Nat.reduceEqDiff,Nat.reduceBEq,Nat.reduceBNe,List.reduceReplicate,reduceIte,reduceCtorEq,↓reduceIte]
  try trivial
 ·exact Nat.zero_le _
 intro j hj
 have w2:j < L.length→IntKind.i64.wrap ((j:Int)+1)=((j+1:Nat):Int):=fun h=>i64_in _ (by omega)
 have hs:j < L.length→(highsF L).take j ++ [(L.getD j (0,0)).2]=(highsF L).take (j+1):=fun h=>by
  rw [List.take_succ_eq_append_getElem (by rw [highs_len];exact h),← highs_getD]
  simp [List.getD,highs_len,h]
 have hlt:((highsF L).take j).length=j:=by rw [List.length_take,highs_len];omega
 dsimp only [x118_0,x118_0d]
 simp only [↓hcsHs9,hlt,go_sem,Nat.reduceAdd,Nat.reduceSub,Nat.reduceMul,Nat.reduceLT,Nat.reduceLeDiff,Nat.reduceEqDiff,Nat.reduceBEq,Nat.reduceBNe,List.reduceReplicate,reduceIte,reduceCtorEq,↓reduceIte]
 try simp only [hlt,td,reduceCtorEq]
 refine ⟨fun hj'=>⟨⟨hj',by omega⟩,j+1,by omega,hj',w2 hj',hs hj'⟩,fun hj'=>?_⟩
 exact List.take_of_length_le (by rw [highs_len];omega)
def entLs19:Ent:=⟨119,.cons (.sl (.st (.cons (.int .i64) (.int .i64)))) .nil,(.sl (.int .i64)),false,none,fun x=>List.length (α:=DLeg) x.1≤1000,fun x=>lowsF x.1⟩
def csLs9:List Ent:=[] theorem hcsLs9 (f:FuncId):findEnt csLs9 f=findEnt [] f:=rfl
theorem conLs19:Con Tryz.prog entLs19:=by
 refine con_is (C:=csLs9) x119 (by kernel_rfl) (by simp [csLs9]) fun x hx hf=>?_
 obtain ⟨(L:List DLeg),_⟩:=x
 have hL:L.length≤1000:=hx
 dsimp only [entLs19,x119];simp only [↓hcsLs9,go_sem,Nat.reduceAdd,Nat.reduceSub,Nat.reduceMul,Nat.reduceLT,Nat.reduceLeDiff,Nat.reduceEqDiff,Nat.reduceBEq,Nat.reduceBNe,List.reduceReplicate,reduceIte,reduceCtorEq,↓reduceIte];try simp only [td,reduceCtorEq]
 refine XW_for 1000 x119_0d [0] Nat (fun j=>[(4,.val (.int .i64) (j:Int)),(3,.own 7)]) (fun j=>[(7,.row 3 (.int .i64) ((lowsF L).take j))]) (fun j=>j≤L.length) (fun j=>L.length - j) 0 ?_ ?_ ?_
 ·dsimp only [x119_0d]
  simp only [go_sem,Nat.reduceAdd,Nat.reduceSub,Nat.reduceMul,Nat.reduceLT,Nat.reduceLeDiff,Nat.reduceEqDiff,Nat.reduceBEq,Nat.reduceBNe,List.reduceReplicate,reduceIte,reduceCtorEq,↓reduceIte]
  try trivial
 ·exact Nat.zero_le _
 intro j hj
 have w2:j < L.length→IntKind.i64.wrap ((j:Int)+1)=((j+1:Nat):Int):=fun h=>i64_in _ (by omega)
 have hs:j < L.length→(lowsF L).take j ++ [(L.getD j (0,0)).1]=(lowsF L).take (j+1):=fun h=>by
  rw [List.take_succ_eq_append_getElem (by rw [lows_len];exact h),← lows_getD]
  simp [List.getD,lows_len,h]
 have hlt:((lowsF L).take j).length=j:=by rw [List.length_take,lows_len];omega
 dsimp only [x119_0,x119_0d]
 simp only [↓hcsLs9,hlt,go_sem,Nat.reduceAdd,Nat.reduceSub,Nat.reduceMul,Nat.reduceLT,Nat.reduceLeDiff,Nat.reduceEqDiff,Nat.reduceBEq,Nat.reduceBNe,List.reduceReplicate,reduceIte,reduceCtorEq,↓reduceIte]
 try simp only [hlt,td,reduceCtorEq]
 refine ⟨fun hj'=>⟨⟨hj',by omega⟩,j+1,by omega,hj',w2 hj',hs hj'⟩,fun hj'=>?_⟩
 exact List.take_of_length_le (by rw [lows_len];omega)
def entDr19:Ent:=⟨117,.cons (.int .i64) (.cons (.sl (.int .i64)) (.cons (.sl (.int .i64)) (.cons (.int .i64) .nil))),(.int .i64),false,none,fun x=>((0≤(x.2.2.2.1:Int)∧(x.2.2.2.1:Int) < List.length (α:=Int) x.2.1)∧List.length (α:=Int) x.2.2.1=List.length (α:=Int) x.2.1∧List.length (α:=Int) x.2.1≤1000)∧Within 0 1048576 x.2.1,fun x=>drvF x.1 x.2.1 x.2.2.1 ((x.2.2.2.1:Int).toNat+1)⟩
def csDr9:List Ent:=[] theorem hcsDr9 (f:FuncId):findEnt csDr9 f=findEnt [] f:=rfl
theorem conDr19:Con Tryz.prog entDr19:=by
 refine con_is (C:=csDr9) x117 (by kernel_rfl) (by simp [csDr9]) fun x hx hf=>?_
 obtain ⟨(B:Int),(l:List Int),(w:List Int),(a:Int),_⟩:=x
 obtain ⟨⟨⟨h1,h2⟩,h3,h4⟩,hl⟩:=hx
 replace h1:0≤a:=h1
 replace h2:a < (l.length:Int):=h2
 replace h3:w.length=l.length:=h3
 replace h4:l.length≤1000:=h4
 replace hl:Within 0 1048576 l:=hl
 obtain ⟨a,rfl⟩:∃ z:Nat,a=z:=⟨a.toNat,by omega⟩
 have hd:=fun j=>drv_bd (rest:=B) (w:=w) hl j
 dsimp only [entDr19,x117];simp only [↓hcsDr9,go_sem,Nat.reduceAdd,Nat.reduceSub,Nat.reduceMul,Nat.reduceLT,Nat.reduceLeDiff,Nat.reduceEqDiff,Nat.reduceBEq,Nat.reduceBNe,List.reduceReplicate,reduceIte,reduceCtorEq,↓reduceIte];try simp only [td,reduceCtorEq]
 refine XW_for 1000 x117_0d [] Nat (fun p=>[(10,.val (.int .i64) ((p:Int) - 1)),(9,.val (.int .i64) (drvF B l w (a+1) - drvF B l w p))]) (fun _=>[]) (fun p=>p≤a+1∧drvF B l w p≤drvF B l w (a+1)) (fun p=>p) (a+1) ?_ ?_ ?_
 ·dsimp only [x117_0d]
  simp only [go_sem,Nat.reduceAdd,Nat.reduceSub,Nat.reduceMul,Nat.reduceLT,Nat.reduceLeDiff,Nat.reduceEqDiff,Nat.reduceBEq,Nat.reduceBNe,List.reduceReplicate,reduceIte,reduceCtorEq,↓reduceIte]
  exact ⟨by show (a:Int)=((a+1:Nat):Int) - 1;omega,(Int.sub_self _).symm⟩
 ·exact ⟨Nat.le_refl _,Int.le_refl _⟩
 rintro p ⟨hp,hle⟩
 cases p with
 | zero =>
  have e10:¬ (((0:Nat):Int) - 1) ≥ 0:=by decide
  dsimp only [x117_0,x117_0d]
  simp only [↓hcsDr9,e10,go_sem,Nat.reduceAdd,Nat.reduceSub,Nat.reduceMul,Nat.reduceLT,Nat.reduceLeDiff,Nat.reduceEqDiff,Nat.reduceBEq,Nat.reduceBNe,List.reduceReplicate,reduceIte,reduceCtorEq,↓reduceIte]
  try simp only [e10,td,reduceCtorEq]
  show drvF B l w (a+1) - 0=_
  rw [Int.sub_zero]
 | succ k =>
  have e9:((k+1:Nat):Int) - 1=(k:Int):=by omega
  have e10:(k:Int) ≥ 0:=by omega
  dsimp only [x117_0,x117_0d]
  simp only [↓hcsDr9,e9,e10,Int.toNat_natCast,go_sem,Nat.reduceAdd,Nat.reduceSub,Nat.reduceMul,Nat.reduceLT,Nat.reduceLeDiff,Nat.reduceEqDiff,Nat.reduceBEq,Nat.reduceBNe,List.reduceReplicate,reduceIte,reduceCtorEq,↓reduceIte]
  try simp only [e9,e10,Int.toNat_natCast,td,reduceCtorEq]
  have hlk:=hl.getD (Int.le_refl _) (by omega) k
  have hdk:=hd (k+1)
  have hdk0:=hd k
  have hda:=hd (a+1)
  have ed:drvF B l w (k+1)=(if w.getD k 0 ≥ B then 0 else drvF B l w k)+l.getD k 0:=rfl
  have w3:IntKind.i64.wrap (drvF B l w (a+1) - drvF B l w (k+1)+l.getD k 0)=drvF B l w (a+1) - drvF B l w (k+1)+l.getD k 0:=i64_in _ (by omega)
  rw [w3]
  refine ⟨by omega,by omega,fun h=>?_,fun h=>⟨k,by omega,⟨by omega,?_⟩,i64_in _ (by omega),?_⟩⟩
  ·rw [if_pos h] at ed
   show drvF B l w (a+1) - drvF B l w (k+1)+l.getD k 0=drvF B l w (a+1)
   omega
  ·rw [if_neg (by omega)] at ed;omega
  ·rw [if_neg (by omega)] at ed
   show drvF B l w (a+1) - drvF B l w (k+1)+l.getD k 0=drvF B l w (a+1) - drvF B l w k
   omega
def entWo19:Ent:=⟨120,.cons (.sl (.int .i64)) (.cons (.sl (.int .i64)) (.cons (.int .i64) .nil)),(.int .i64),false,none,fun x=>((0≤(x.2.2.1:Int)∧(x.2.2.1:Int) < List.length (α:=Int) x.1)∧List.length (α:=Int) x.2.1=List.length (α:=Int) x.1∧List.length (α:=Int) x.1≤1000)∧Within 0 1048576 x.1∧Within 0 1048576 x.2.1,fun x=>wrkF x.1 x.2.1 ((x.2.2.1:Int).toNat+1)⟩
def csWo9:List Ent:=[] theorem hcsWo9 (f:FuncId):findEnt csWo9 f=findEnt [] f:=rfl
theorem conWo19:Con Tryz.prog entWo19:=by
 refine con_is (C:=csWo9) x120 (by kernel_rfl) (by simp [csWo9]) fun x hx hf=>?_
 obtain ⟨(l:List Int),(w:List Int),(a:Int),_⟩:=x
 obtain ⟨⟨⟨h1,h2⟩,h3,h4⟩,hl,hw⟩:=hx
 replace h1:0≤a:=h1
 replace h2:a < (l.length:Int):=h2
 replace h3:w.length=l.length:=h3
 replace h4:l.length≤1000:=h4
 replace hl:Within 0 1048576 l:=hl
 replace hw:Within 0 1048576 w:=hw
 obtain ⟨a,rfl⟩:∃ z:Nat,a=z:=⟨a.toNat,by omega⟩
 have hd:=fun j=>wrk_bd hl hw j
 dsimp only [entWo19,x120];simp only [↓hcsWo9,go_sem,Nat.reduceAdd,Nat.reduceSub,Nat.reduceMul,Nat.reduceLT,Nat.reduceLeDiff,Nat.reduceEqDiff,Nat.reduceBEq,Nat.reduceBNe,List.reduceReplicate,reduceIte,reduceCtorEq,↓reduceIte];try simp only [td,reduceCtorEq]
 refine XW_for 1000 x120_0d [] Nat (fun j=>[(8,.val (.int .i64) (j:Int)),(7,.val (.int .i64) (wrkF l w j))]) (fun _=>[]) (fun j=>j≤a+1) (fun j=>a+1 - j) 0 ?_ ?_ ?_
 ·dsimp only [x120_0d]
  simp only [go_sem,Nat.reduceAdd,Nat.reduceSub,Nat.reduceMul,Nat.reduceLT,Nat.reduceLeDiff,Nat.reduceEqDiff,Nat.reduceBEq,Nat.reduceBNe,List.reduceReplicate,reduceIte,reduceCtorEq,↓reduceIte]
  exact ⟨rfl,rfl⟩
 ·exact Nat.zero_le _
 intro j hj
 have w2:IntKind.i64.wrap ((j:Int)+1)=((j+1:Nat):Int):=i64_in _ (by omega)
 have hlj:=hl.getD (Int.le_refl _) (by omega) j
 have hwj:=hw.getD (Int.le_refl _) (by omega) j
 have hdj:=hd j
 have ek:wrkF l w (j+1)=wrkF l w j+(if 0 < j then w.getD j 0 else 0)+l.getD j 0:=rfl
 dsimp only [x120_0,x120_0d]
 simp only [↓hcsWo9,w2,go_sem,Nat.reduceAdd,Nat.reduceSub,Nat.reduceMul,Nat.reduceLT,Nat.reduceLeDiff,Nat.reduceEqDiff,Nat.reduceBEq,Nat.reduceBNe,List.reduceReplicate,reduceIte,reduceCtorEq,↓reduceIte]
 try simp only [w2,td,reduceCtorEq]
 refine ⟨fun hja=>⟨by omega,fun hp=>⟨by omega,j+1,by omega,by omega,rfl,?_⟩,fun hp=>⟨j+1,by omega,by omega,rfl,?_⟩⟩,fun hja=>by rw [show j=a+1 by omega]⟩
 ·rw [if_pos (by omega)] at ek
  rw [i64_in (wrkF l w j+l.getD j 0) (by omega),i64_in (wrkF l w j+l.getD j 0+w.getD j 0) (by omega),ek]
  show wrkF l w j+l.getD j 0+w.getD j 0=wrkF l w j+w.getD j 0+l.getD j 0
  omega
 ·rw [if_neg (by omega),Int.add_zero] at ek
  rw [i64_in (wrkF l w j+l.getD j 0) (by omega),ek]
def entCk19:Ent:=⟨60,.cons (.st (.cons (.int .i64) (.cons (.int .i64) (.int .i64)))) (.cons (.sl (.st (.cons (.int .i64) (.int .i64)))) (.cons (.sl (.st (.cons (.int .i64) (.int .i64)))) .nil)),.cons (.int .i64) (.cons (.int .i64) .nil),true,none,fun _=>True,fun x=>((checkK x.1 x.2.1 x.2.2.1).1,(checkK x.1 x.2.1 x.2.2.1).2,())⟩
def csCk9:List Ent:=[entRi19,entHs19,entLs19,entDr19,entWo19] theorem hcsCk9 (f:FuncId):findEnt csCk9 f=findEnt [entRi19,entHs19,entLs19,entDr19,entWo19] f:=rfl
theorem conCk19:Con Tryz.prog entCk19:=by
 refine con_is (C:=csCk9) x60 (by kernel_rfl) (by simp [csCk9,conRi19,conHs19,conLs19,conDr19,conWo19]) fun x hx hf=>?_
 obtain ⟨⟨(D:Int),(B:Int),(K:Int)⟩,(l:List DLeg),(w:List DLeg),_⟩:=x
 dsimp only [entCk19,x60];simp only [↓hcsCk9,entRi19,entHs19,entLs19,entDr19,entWo19,go_sem,Nat.reduceAdd,Nat.reduceSub,Nat.reduceMul,Nat.reduceLT,Nat.reduceLeDiff,Nat.reduceEqDiff,Nat.reduceBEq,Nat.reduceBNe,List.reduceReplicate,reduceIte,reduceCtorEq,↓reduceIte];try simp only [td,reduceCtorEq]
 refine ⟨fun h=>by unfold checkK;rw [if_pos h],fun hr=>?_⟩
 obtain ⟨_,⟨h1,h2⟩,h3,h4⟩:=rightK_iff.1 hr
 refine XW_for 1000 x60_0d [0] Nat (fun j=>[(8,.val (.int .i64) (j:Int))]) (fun _=>[]) (fun j=>j≤l.length∧∀ k,k < j→badK (D,B,K) l w k=false) (fun j=>l.length - j) 0 ?_ ?_ ?_
 ·dsimp only [x60_0d]
  simp only [go_sem,Nat.reduceAdd,Nat.reduceSub,Nat.reduceMul,Nat.reduceLT,Nat.reduceLeDiff,Nat.reduceEqDiff,Nat.reduceBEq,Nat.reduceBNe,List.reduceReplicate,reduceIte,reduceCtorEq,↓reduceIte]
  try trivial
 ·exact ⟨Nat.zero_le _,fun k hk=>absurd hk (Nat.not_lt_zero _)⟩
 rintro j ⟨hj,hn⟩
 by_cases hj':j < l.length
 ·have w2:IntKind.i64.wrap ((j:Int)+1)=((j+1:Nat):Int):=i64_in _ (by omega)
  have hji:(j:Int) < (l.length:Int):=by omega
  have hbk:badK (D,B,K) l w j=(decide (D < drvF B (highsF l) (lowsF w) (j+1)) || decide (K < wrkF (highsF l) (highsF w) (j+1))):=rfl
  dsimp only [x60_0,x60_0d]
  simp only [↓hcsCk9,entRi19,entHs19,entLs19,entDr19,entWo19,hj',hji,w2,highs_len,lows_len,Int.toNat_natCast,go_sem,Nat.reduceAdd,Nat.reduceSub,Nat.reduceMul,Nat.reduceLT,Nat.reduceLeDiff,Nat.reduceEqDiff,Nat.reduceBEq,Nat.reduceBNe,List.reduceReplicate,reduceIte,reduceCtorEq,↓reduceIte]
  try simp only [hj',hji,w2,highs_len,lows_len,Int.toNat_natCast,td,reduceCtorEq]
  have hl8:l.length≤1000:=by omega
  have hw8:w.length≤1000:=by omega
  refine ⟨⟨hl8,hw8,⟨⟨h2,hl8⟩,legs_high h3⟩,fun q=>⟨q,hl8⟩,fun q=>⟨q,hw8⟩,fun q=>⟨q,⟨h2,hl8⟩,legs_high h3,legs_high h4⟩⟩,fun q=>?_,fun q=>⟨j+1,by omega,⟨hj',fun k hk=>?_⟩,rfl⟩⟩
  ·have hfi:fstK (D,B,K) l w=j:=fstK_at hj' hn (by
    rw [hbk,Bool.or_eq_true,decide_eq_true_eq,decide_eq_true_eq]
    exact q)
   unfold checkK
   rw [if_neg (by rw [hr];simp),hfi,if_neg (by omega)]
  ·by_cases c:k=j
   ·subst c
    rw [hbk,Bool.or_eq_false_iff,decide_eq_false_iff_not,decide_eq_false_iff_not]
    omega
   ·exact hn k (by omega)
 ·have hji:¬ (j:Int) < (l.length:Int):=by omega
  obtain rfl:j=l.length:=by omega
  dsimp only [x60_0,x60_0d]
  simp only [↓hcsCk9,entRi19,entHs19,entLs19,entDr19,entWo19,hj',hji,go_sem,Nat.reduceAdd,Nat.reduceSub,Nat.reduceMul,Nat.reduceLT,Nat.reduceLeDiff,Nat.reduceEqDiff,Nat.reduceBEq,Nat.reduceBNe,List.reduceReplicate,reduceIte,reduceCtorEq,↓reduceIte]
  try simp only [hj',hji,td,reduceCtorEq]
  unfold checkK
  rw [if_neg (by rw [hr];simp),fstK_none hn,if_pos (by decide)]
end T
end Go.Proofs.YtecdcopihghnaaaGreat
end
section
namespace Go.Proofs.YtecdcopihghnaaaGreat
set_option linter.unusedVariables false
set_option linter.unusedSimpArgs false
open Go.RowKit Go.IntWalk
namespace T
def in3 (n a b:Int):Bool:=decide (a≤n∧n≤b)
def entIn16:Ent:=⟨134,.cons (.int .i64) (.cons (.int .i64) (.cons (.int .i64) .nil)),.bool,false,none,fun _=>True,fun x=>in3 x.1 x.2.1 x.2.2.1⟩
def csIn6:List Ent:=[] theorem hcsIn6 (f:FuncId):findEnt csIn6 f=findEnt [] f:=rfl
theorem conIn16:Con Tryz.prog entIn16:=by
 refine con_is (C:=csIn6) x134 (by kernel_rfl) (by simp [csIn6]) fun x hx hf=>?_
 obtain ⟨(n:Int),(a:Int),(b:Int),_⟩:=x
 dsimp only [entIn16,x134];simp only [↓hcsIn6,go_sem,Nat.reduceAdd,Nat.reduceSub,Nat.reduceMul,Nat.reduceLT,Nat.reduceLeDiff,Nat.reduceEqDiff,Nat.reduceBEq,Nat.reduceBNe,List.reduceReplicate,reduceIte,reduceCtorEq,↓reduceIte];try simp only [td,reduceCtorEq]
 unfold in3
 rw [Bool.eq_iff_iff]
 simp
def entRR16:Ent:=⟨74,.cons (.st (.cons (.sl (.st (.cons (.int .i64) (.int .i64)))) (.cons (.sl (.st (.cons (.int .i64) (.int .i64)))) (.sl (.st (.cons (.int .i64) (.cons (.int .i64) (.int .i64)))))))) .nil,.bool,false,none,fun _=>True,fun x=>rightC x.1⟩
def csR16:List Ent:=[entIn16] theorem hcsR16 (f:FuncId):findEnt csR16 f=findEnt [entIn16] f:=rfl
theorem conRR16:Con Tryz.prog entRR16:=by
 refine con_is (C:=csR16) x74 (by kernel_rfl) (by simp [csR16,conIn16]) fun x hx hf=>?_
 obtain ⟨⟨(W:List DWin),(L:List DLeg),(R:List DRide)⟩,_⟩:=x
 have hW:W.length≤9223372036854775807:=hf.1.1.1
 have w:IntKind.i64.wrap ((W.length:Int) - 1)=(W.length:Int) - 1:=i64_in _ (by omega)
 dsimp only [entRR16,x74];simp only [↓hcsR16,entIn16,w,go_sem,Nat.reduceAdd,Nat.reduceSub,Nat.reduceMul,Nat.reduceLT,Nat.reduceLeDiff,Nat.reduceEqDiff,Nat.reduceBEq,Nat.reduceBNe,List.reduceReplicate,reduceIte,reduceCtorEq,↓reduceIte]
 try simp only [w,td,reduceCtorEq]
 have hno:∀ h:rightC (W,L,R)=true→False,false=rightC (W,L,R):=fun h=>by
  symm
  rw [← Bool.not_eq_true]
  exact h
 refine ⟨fun h=>hno fun q=>?_,?_⟩
 ·have q1:=(rightC_iff.1 q).1
  dsimp only at q1
  omega
 rintro ⟨⟨⟨h1,h2⟩,h3⟩,h4⟩
 refine XW_for 1000 x74_0d [0] Nat (fun j=>[(4,.val (.int .i64) (j:Int))]) (fun _=>[]) (fun j=>j≤W.length∧∀ k,k < j→winB (W.getD k (0,0))=true) (fun j=>W.length - j) 0 ?_ ?_ ?_
 ·dsimp only [x74_0d]
  simp only [go_sem,Nat.reduceAdd,Nat.reduceSub,Nat.reduceMul,Nat.reduceLT,Nat.reduceLeDiff,Nat.reduceEqDiff,Nat.reduceBEq,Nat.reduceBNe,List.reduceReplicate,reduceIte,reduceCtorEq,↓reduceIte]
  try trivial
 ·exact ⟨Nat.zero_le _,fun k hk=>absurd hk (Nat.not_lt_zero _)⟩
 rintro j ⟨hj,hn⟩
 by_cases hj':j < W.length
 ·have w2:IntKind.i64.wrap ((j:Int)+1)=((j+1:Nat):Int):=i64_in _ (by omega)
  have hji:(j:Int) < (W.length:Int):=by omega
  have hmem:=getD_mem2 (d:=((0,0):DWin)) hj'
  generalize hS:W.getD j (0,0)=x at hmem
  obtain ⟨a,b⟩:=x
  dsimp only [x74_0,x74_0d]
  simp only [↓hcsR16,entIn16,hj',hji,hS,w2,go_sem,Nat.reduceAdd,Nat.reduceSub,Nat.reduceMul,Nat.reduceLT,Nat.reduceLeDiff,Nat.reduceEqDiff,Nat.reduceBEq,Nat.reduceBNe,List.reduceReplicate,reduceIte,reduceCtorEq,↓reduceIte]
  try simp only [hj',hji,hS,w2,td,reduceCtorEq]
  have hwb:winB (a,b)=true ↔ in3 a 0 b=true∧b≤1048576:=by unfold winB in3;simp;omega
  refine ⟨fun h=>hno fun q=>?_,fun h=>⟨j+1,by omega,⟨hj',fun k hk=>?_⟩,rfl⟩⟩
  ·have q2:=(rightC_iff.1 q).2.1 _ hmem
   dsimp only at q2
   have:winB (a,b)=true:=by unfold winB;exact decide_eq_true q2
   have:=hwb.1 this
   rcases h with h | h
   ·rw [h] at this;cases this.1
   ·omega
  ·by_cases c:k=j
   ·subst c;rw [hS];exact hwb.2 h
   ·exact hn k (by omega)
 have hW2:∀ x ∈ W,winB x=true:=fun x hx=>by
  obtain ⟨k,hk,rfl⟩:=List.getElem_of_mem hx
  have:=hn k (by omega)
  rwa [show W.getD k (0,0)=W[k] by simp [List.getD,hk]] at this
 have hji:¬ (j:Int) < (W.length:Int):=by omega
 dsimp only [x74_0,x74_0d]
 simp only [↓hcsR16,entIn16,hj',hji,w,go_sem,Nat.reduceAdd,Nat.reduceSub,Nat.reduceMul,Nat.reduceLT,Nat.reduceLeDiff,Nat.reduceEqDiff,Nat.reduceBEq,Nat.reduceBNe,List.reduceReplicate,reduceIte,reduceCtorEq,↓reduceIte]
 try simp only [hj',hji,w,td,reduceCtorEq]
 refine XW_for 2000 x74_1d [0] Nat (fun j=>[(5,.val (.int .i64) (j:Int))]) (fun _=>[]) (fun j=>j≤L.length∧∀ k,k < j→legB (L.getD k (0,0))=true) (fun j=>L.length - j) 0 ?_ ?_ ?_
 ·dsimp only [x74_1d]
  simp only [go_sem,Nat.reduceAdd,Nat.reduceSub,Nat.reduceMul,Nat.reduceLT,Nat.reduceLeDiff,Nat.reduceEqDiff,Nat.reduceBEq,Nat.reduceBNe,List.reduceReplicate,reduceIte,reduceCtorEq,↓reduceIte]
  try trivial
 ·exact ⟨Nat.zero_le _,fun k hk=>absurd hk (Nat.not_lt_zero _)⟩
 rintro j ⟨hj,hn⟩
 by_cases hj':j < L.length
 ·have w2:IntKind.i64.wrap ((j:Int)+1)=((j+1:Nat):Int):=i64_in _ (by omega)
  have hji:(j:Int) < (W.length:Int) - 1:=by omega
  have hmem:=getD_mem2 (d:=((0,0):DLeg)) hj'
  generalize hS:L.getD j (0,0)=x at hmem
  obtain ⟨a,b⟩:=x
  dsimp only [x74_1,x74_1d]
  simp only [↓hcsR16,entIn16,hj',hji,hS,w,w2,go_sem,Nat.reduceAdd,Nat.reduceSub,Nat.reduceMul,Nat.reduceLT,Nat.reduceLeDiff,Nat.reduceEqDiff,Nat.reduceBEq,Nat.reduceBNe,List.reduceReplicate,reduceIte,reduceCtorEq,↓reduceIte]
  try simp only [hj',hji,hS,w,w2,td,reduceCtorEq]
  have hwb:legB (a,b)=true ↔ in3 a 0 b=true∧b≤1048576:=by unfold legB in3;simp;omega
  refine ⟨fun h=>hno fun q=>?_,fun h=>⟨j+1,by omega,⟨hj',fun k hk=>?_⟩,rfl⟩⟩
  ·have q2:=(rightC_iff.1 q).2.2.1 _ hmem
   dsimp only at q2
   have:legB (a,b)=true:=by unfold legB;exact decide_eq_true q2
   have:=hwb.1 this
   rcases h with h | h
   ·rw [h] at this;cases this.1
   ·omega
  ·by_cases c:k=j
   ·subst c;rw [hS];exact hwb.2 h
   ·exact hn k (by omega)
 have hL2:∀ x ∈ L,legB x=true:=fun x hx=>by
  obtain ⟨k,hk,rfl⟩:=List.getElem_of_mem hx
  have:=hn k (by omega)
  rwa [show L.getD k (0,0)=L[k] by simp [List.getD,hk]] at this
 have hji:¬ (j:Int) < (W.length:Int) - 1:=by omega
 dsimp only [x74_1,x74_1d]
 simp only [↓hcsR16,entIn16,hj',hji,w,go_sem,Nat.reduceAdd,Nat.reduceSub,Nat.reduceMul,Nat.reduceLT,Nat.reduceLeDiff,Nat.reduceEqDiff,Nat.reduceBEq,Nat.reduceBNe,List.reduceReplicate,reduceIte,reduceCtorEq,↓reduceIte]
 try simp only [hj',hji,w,td,reduceCtorEq]
 refine XW_for 3000 x74_2d [0] Nat (fun j=>[(6,.val (.int .i64) (j:Int))]) (fun _=>[]) (fun j=>j≤R.length∧∀ k,k < j→rideB (W.length:Int) (R.getD k (0,0,0))=true) (fun j=>R.length - j) 0 ?_ ?_ ?_
 ·dsimp only [x74_2d]
  simp only [go_sem,Nat.reduceAdd,Nat.reduceSub,Nat.reduceMul,Nat.reduceLT,Nat.reduceLeDiff,Nat.reduceEqDiff,Nat.reduceBEq,Nat.reduceBNe,List.reduceReplicate,reduceIte,reduceCtorEq,↓reduceIte]
  try trivial
 ·exact ⟨Nat.zero_le _,fun k hk=>absurd hk (Nat.not_lt_zero _)⟩
 rintro j ⟨hj,hn⟩
 by_cases hj':j < R.length
 ·have w2:IntKind.i64.wrap ((j:Int)+1)=((j+1:Nat):Int):=i64_in _ (by omega)
  have hmem:=getD_mem2 (d:=((0,0,0):DRide)) hj'
  generalize hS:R.getD j (0,0,0)=x at hmem
  obtain ⟨a,b,d⟩:=x
  dsimp only [x74_2,x74_2d]
  simp only [↓hcsR16,entIn16,hj',hS,w2,go_sem,Nat.reduceAdd,Nat.reduceSub,Nat.reduceMul,Nat.reduceLT,Nat.reduceLeDiff,Nat.reduceEqDiff,Nat.reduceBEq,Nat.reduceBNe,List.reduceReplicate,reduceIte,reduceCtorEq,↓reduceIte]
  try simp only [hj',hS,w2,td,reduceCtorEq]
  have hwb:rideB (W.length:Int) (a,b,d)=true ↔ ((0≤a∧a < b)∧b < (W.length:Int))∧in3 d 0 1048576=true:=by unfold rideB in3;simp;omega
  refine ⟨fun h=>hno fun q=>?_,fun h=>⟨j+1,by omega,⟨hj',fun k hk=>?_⟩,rfl⟩⟩
  ·have q2:=(rightC_iff.1 q).2.2.2 _ hmem
   dsimp only at q2
   have:rideB (W.length:Int) (a,b,d)=true:=by unfold rideB;exact decide_eq_true q2
   have:=hwb.1 this
   rcases h with h | h
   ·omega
   ·rw [h] at this;cases this.2
  ·by_cases c:k=j
   ·subst c;rw [hS];exact hwb.2 h
   ·exact hn k (by omega)
 have hR2:∀ x ∈ R,rideB (W.length:Int) x=true:=fun x hx=>by
  obtain ⟨k,hk,rfl⟩:=List.getElem_of_mem hx
  have:=hn k (by omega)
  rwa [show R.getD k (0,0,0)=R[k] by simp [List.getD,hk]] at this
 dsimp only [x74_2,x74_2d]
 simp only [↓hcsR16,entIn16,hj',go_sem,Nat.reduceAdd,Nat.reduceSub,Nat.reduceMul,Nat.reduceLT,Nat.reduceLeDiff,Nat.reduceEqDiff,Nat.reduceBEq,Nat.reduceBNe,List.reduceReplicate,reduceIte,reduceCtorEq,↓reduceIte]
 try simp only [hj',td,reduceCtorEq]
 symm
 unfold rightC
 rw [decide_eq_true (by dsimp only;omega),Bool.true_and,Bool.and_eq_true,Bool.and_eq_true]
 exact ⟨List.all_eq_true.2 hW2,List.all_eq_true.2 hL2,List.all_eq_true.2 hR2⟩
def entHg16:Ent:=⟨113,.cons (.st (.cons (.sl (.st (.cons (.int .i64) (.int .i64)))) (.cons (.sl (.st (.cons (.int .i64) (.int .i64)))) (.sl (.st (.cons (.int .i64) (.cons (.int .i64) (.int .i64)))))))) (.cons (.int .i64) (.cons (.int .i64) .nil)),(.int .i64),false,none,fun x=>rightC x.1=true∧(0≤(x.2.1:Int)∧(x.2.1:Int)≤(x.2.2.1:Int))∧(x.2.2.1:Int)≤(x.1:DChain).2.1.length,fun x=>psF (x.1:DChain).2.1 (x.2.2.1:Int).toNat - psF (x.1:DChain).2.1 (x.2.1:Int).toNat⟩
def csH16:List Ent:=[] theorem hcsH16 (f:FuncId):findEnt csH16 f=findEnt [] f:=rfl
theorem conHg16:Con Tryz.prog entHg16:=by
 refine con_is (C:=csH16) x113 (by kernel_rfl) (by simp [csH16]) fun x hx hf=>?_
 obtain ⟨⟨(W:List DWin),(L:List DLeg),(R:List DRide)⟩,(a:Int),(b:Int),_⟩:=x
 obtain ⟨hr,⟨h1,h2⟩,h3⟩:=hx
 have h1:0≤a:=h1
 have h2:a≤b:=h2
 have h3:b≤(L.length:Int):=h3
 obtain ⟨a,rfl⟩:∃ z:Nat,a=z:=⟨a.toNat,by omega⟩
 obtain ⟨b,rfl⟩:∃ z:Nat,b=z:=⟨b.toNat,by omega⟩
 have hc:=(rightC_iff.1 hr).1
 dsimp only at hc
 have hps:=fun k=>psF_bd hr k
 dsimp only at hps
 dsimp only [entHg16,x113];simp only [↓hcsH16,go_sem,Nat.reduceAdd,Nat.reduceSub,Nat.reduceMul,Nat.reduceLT,Nat.reduceLeDiff,Nat.reduceEqDiff,Nat.reduceBEq,Nat.reduceBNe,List.reduceReplicate,reduceIte,reduceCtorEq,↓reduceIte];try simp only [td,reduceCtorEq]
 refine XW_for 1000 x113_0d [0] Nat (fun j=>[(8,.val (.int .i64) ((a+j:Nat):Int)),(7,.val (.int .i64) (psF L (a+j) - psF L a))]) (fun _=>[]) (fun j=>a+j≤b) (fun j=>b - a - j) 0 ?_ ?_ ?_
 ·dsimp only [x113_0d]
  simp only [go_sem,Nat.reduceAdd,Nat.reduceSub,Nat.reduceMul,Nat.reduceLT,Nat.reduceLeDiff,Nat.reduceEqDiff,Nat.reduceBEq,Nat.reduceBNe,List.reduceReplicate,reduceIte,reduceCtorEq,↓reduceIte]
  exact ⟨rfl,by rw [Nat.add_zero];exact (Int.sub_self _).symm⟩
 ·show a+0≤b
  omega
 intro j hj
 have w2:IntKind.i64.wrap (((a+j:Nat):Int)+1)=((a+(j+1):Nat):Int):=(i64_in _ (by omega)).trans (by omega)
 dsimp only [x113_0,x113_0d]
 simp only [↓hcsH16,w2,Int.toNat_natCast,go_sem,Nat.reduceAdd,Nat.reduceSub,Nat.reduceMul,Nat.reduceLT,Nat.reduceLeDiff,Nat.reduceEqDiff,Nat.reduceBEq,Nat.reduceBNe,List.reduceReplicate,reduceIte,reduceCtorEq,↓reduceIte]
 try simp only [w2,Int.toNat_natCast,td,reduceCtorEq]
 refine ⟨fun hj'=>⟨by omega,j+1,by omega,by omega,rfl,?_⟩,fun hj'=>by rw [show a+j=b by omega]⟩
 have h4:=right_leg hr (k:=a+j) (by dsimp only;omega)
 dsimp only at h4
 have h5:=hps (a+j)
 have h6:=hps a
 rw [i64_in (psF L (a+j) - psF L a+(L.getD (a+j) (0,0)).2) (by omega)]
 show _=psF L (a+j)+(L.getD (a+j) (0,0)).2 - psF L a
 omega
def entPl16:Ent:=⟨115,.cons (.st (.cons (.sl (.st (.cons (.int .i64) (.int .i64)))) (.cons (.sl (.st (.cons (.int .i64) (.int .i64)))) (.sl (.st (.cons (.int .i64) (.cons (.int .i64) (.int .i64)))))))) (.cons (.sl (.int .i64)) (.cons (.sl (.int .i64)) .nil)),(.sl (.int .i64)),false,none,fun x=>((x.1:DChain).1.length=List.length (α:=Int) x.2.2.1+1∧List.length (α:=Int) x.2.1=(x.1:DChain).1.length∧(x.1:DChain).1.length≤1000)∧Within 0 2097152 x.2.1∧Within 0 1048576 x.2.2.1,fun x=>playF x.2.1 x.2.2.1⟩
def csP16:List Ent:=[] theorem hcsP16 (f:FuncId):findEnt csP16 f=findEnt [] f:=rfl
theorem conPl16:Con Tryz.prog entPl16:=by
 refine con_is (C:=csP16) x115 (by kernel_rfl) (by simp [csP16]) fun x hx hf=>?_
 obtain ⟨⟨(W:List DWin),(L:List DLeg),(R:List DRide)⟩,(g:List Int),(t:List Int),_⟩:=x
 obtain ⟨⟨h1,h2,h3⟩,hg,ht⟩:=hx
 have hg:Within 0 2097152 g:=hg
 have ht:Within 0 1048576 t:=ht
 have h1:W.length=t.length+1:=h1
 have h2:g.length=W.length:=h2
 have h3:W.length≤1000:=h3
 have hb:=tmF_bd hg ht
 dsimp only [entPl16,x115];simp only [↓hcsP16,go_sem,Nat.reduceAdd,Nat.reduceSub,Nat.reduceMul,Nat.reduceLT,Nat.reduceLeDiff,Nat.reduceEqDiff,Nat.reduceBEq,Nat.reduceBNe,List.reduceReplicate,reduceIte,reduceCtorEq,↓reduceIte];try simp only [td,reduceCtorEq]
 refine XW_for 1000 x115_0d [0] Nat (fun j=>[(9,.val (.int .i64) (j:Int)),(8,.val (.int .i64) (if j=0 then 0 else tmF g t (j - 1))),(7,.own 7)]) (fun j=>[(7,.row 3 (.int .i64) ((List.range j).map (tmF g t)))]) (fun j=>j≤W.length) (fun j=>W.length - j) 0 ?_ ?_ ?_
 ·dsimp only [x115_0d]
  simp only [go_sem,Nat.reduceAdd,Nat.reduceSub,Nat.reduceMul,Nat.reduceLT,Nat.reduceLeDiff,Nat.reduceEqDiff,Nat.reduceBEq,Nat.reduceBNe,List.reduceReplicate,reduceIte,reduceCtorEq,↓reduceIte]
  exact ⟨rfl,rfl⟩
 ·exact Nat.zero_le _
 intro j hj
 have hl:((List.range j).map (tmF g t)).length=j:=by rw [List.length_map,List.length_range]
 by_cases hj':j < W.length
 ·have w2:IntKind.i64.wrap ((j:Int)+1)=((j+1:Nat):Int):=i64_in _ (by omega)
  have hji:(j:Int) < (W.length:Int):=by omega
  cases j with
  | zero =>
   have n0:¬ ((0:Nat):Int) > 0:=by decide
   dsimp only [x115_0,x115_0d]
   simp only [↓hcsP16,hj',hji,hl,w2,n0,if_true,Int.toNat_natCast,go_sem,Nat.reduceAdd,Nat.reduceSub,Nat.reduceMul,Nat.reduceLT,Nat.reduceLeDiff,Nat.reduceEqDiff,Nat.reduceBEq,Nat.reduceBNe,List.reduceReplicate,reduceIte,reduceCtorEq,↓reduceIte]
   try simp only [hj',hji,hl,w2,n0,if_true,Int.toNat_natCast,td,reduceCtorEq]
   exact ⟨by omega,1,by omega,by omega,⟨rfl,rfl⟩,rfl⟩
  | succ q =>
   have n0:((q+1:Nat):Int) > 0:=by omega
   have n1:¬ q+1=0:=by omega
   have w3:IntKind.i64.wrap (((q+1:Nat):Int) - 1)=(q:Int):=(i64_in _ (by omega)).trans (by omega)
   have hbj:=hb q
   have htj:=ht.getD (Int.le_refl _) (by omega) q
   have w4:IntKind.i64.wrap (tmF g t q+t.getD q 0)=tmF g t q+t.getD q 0:=i64_in _ (by omega)
   dsimp only [x115_0,x115_0d]
   simp only [↓hcsP16,hj',hji,hl,w2,w3,w4,n0,n1,Nat.add_sub_cancel,Int.toNat_natCast,go_sem,Nat.reduceAdd,Nat.reduceSub,Nat.reduceMul,Nat.reduceLT,Nat.reduceLeDiff,Nat.reduceEqDiff,Nat.reduceBEq,Nat.reduceBNe,List.reduceReplicate,reduceIte,reduceCtorEq,↓reduceIte]
   try simp only [hj',hji,hl,w2,w3,w4,n0,n1,Nat.add_sub_cancel,Int.toNat_natCast,td,reduceCtorEq]
   exact ⟨by omega,by omega,by omega,q+2,by omega,by omega,⟨rfl,rfl⟩,range_snoc (tmF g t) (q+1)⟩
 ·have hji:¬ (j:Int) < (W.length:Int):=by omega
  dsimp only [x115_0,x115_0d]
  simp only [↓hcsP16,hj',hji,go_sem,Nat.reduceAdd,Nat.reduceSub,Nat.reduceMul,Nat.reduceLT,Nat.reduceLeDiff,Nat.reduceEqDiff,Nat.reduceBEq,Nat.reduceBNe,List.reduceReplicate,reduceIte,reduceCtorEq,↓reduceIte]
  try simp only [hj',hji,td,reduceCtorEq]
  unfold playF
  rw [show j=t.length+1 by omega]
def entHi16:Ent:=⟨116,.cons (.st (.cons (.sl (.st (.cons (.int .i64) (.int .i64)))) (.cons (.sl (.st (.cons (.int .i64) (.int .i64)))) (.sl (.st (.cons (.int .i64) (.cons (.int .i64) (.int .i64)))))))) .nil,(.sl (.int .i64)),false,none,fun x=>(x.1:DChain).2.1.length≤1000,fun x=>highsF (x.1:DChain).2.1⟩
def csHi6:List Ent:=[] theorem hcsHi6 (f:FuncId):findEnt csHi6 f=findEnt [] f:=rfl
theorem conHi16:Con Tryz.prog entHi16:=by
 refine con_is (C:=csHi6) x116 (by kernel_rfl) (by simp [csHi6]) fun x hx hf=>?_
 obtain ⟨⟨(W:List DWin),(L:List DLeg),(R:List DRide)⟩,_⟩:=x
 have hL:L.length≤1000:=hx
 dsimp only [entHi16,x116];simp only [↓hcsHi6,go_sem,Nat.reduceAdd,Nat.reduceSub,Nat.reduceMul,Nat.reduceLT,Nat.reduceLeDiff,Nat.reduceEqDiff,Nat.reduceBEq,Nat.reduceBNe,List.reduceReplicate,reduceIte,reduceCtorEq,↓reduceIte];try simp only [td,reduceCtorEq]
 refine XW_for 1000 x116_0d [0] Nat (fun j=>[(4,.val (.int .i64) (j:Int)),(3,.own 7)]) (fun j=>[(7,.row 3 (.int .i64) ((highsF L).take j))]) (fun j=>j≤L.length) (fun j=>L.length - j) 0 ?_ ?_ ?_
 ·dsimp only [x116_0d]
  simp only [go_sem,Nat.reduceAdd,Nat.reduceSub,Nat.reduceMul,Nat.reduceLT,Nat.reduceLeDiff,Nat.reduceEqDiff,Nat.reduceBEq,Nat.reduceBNe,List.reduceReplicate,reduceIte,reduceCtorEq,↓reduceIte]
  try trivial
 ·exact Nat.zero_le _
 intro j hj
 have w2:j < L.length→IntKind.i64.wrap ((j:Int)+1)=((j+1:Nat):Int):=fun h=>i64_in _ (by omega)
 have hs:j < L.length→(highsF L).take j ++ [(L.getD j (0,0)).2]=(highsF L).take (j+1):=fun h=>by
  rw [List.take_succ_eq_append_getElem (by rw [highs_len];exact h),← highs_getD]
  simp [List.getD,highs_len,h]
 have hlt:((highsF L).take j).length=j:=by rw [List.length_take,highs_len];omega
 dsimp only [x116_0,x116_0d]
 simp only [↓hcsHi6,hlt,go_sem,Nat.reduceAdd,Nat.reduceSub,Nat.reduceMul,Nat.reduceLT,Nat.reduceLeDiff,Nat.reduceEqDiff,Nat.reduceBEq,Nat.reduceBNe,List.reduceReplicate,reduceIte,reduceCtorEq,↓reduceIte]
 try simp only [hlt,td,reduceCtorEq]
 refine ⟨fun hj'=>⟨⟨hj',by omega⟩,j+1,by omega,hj',w2 hj',hs hj'⟩,fun hj'=>?_⟩
 exact List.take_of_length_le (by rw [highs_len];omega)
def fit16 (c:DChain) (g:List Int):Bool:=(g.all fun n=>in3 n 0 2097152) && decide (g.length=c.1.length)
theorem fit16_iff {c:DChain} {g:List Int} (h:rightC c=true):fit16 c g=true ↔ fitsG c g=true:=by
 rw [fitsG_iff]
 unfold fit16 Within
 simp only [Bool.and_eq_true,decide_eq_true_eq,List.all_eq_true]
 unfold in3
 simp only [decide_eq_true_eq]
 exact ⟨fun q=>⟨h,q.2,q.1⟩,fun q=>⟨q.2.2,q.2.1⟩⟩
def entFt16:Ent:=⟨122,.cons (.st (.cons (.sl (.st (.cons (.int .i64) (.int .i64)))) (.cons (.sl (.st (.cons (.int .i64) (.int .i64)))) (.sl (.st (.cons (.int .i64) (.cons (.int .i64) (.int .i64)))))))) (.cons (.sl (.int .i64)) .nil),.bool,false,none,fun _=>True,fun x=>fit16 x.1 x.2.1⟩
def csF16:List Ent:=[entIn16] theorem hcsF16 (f:FuncId):findEnt csF16 f=findEnt [entIn16] f:=rfl
theorem conFt16:Con Tryz.prog entFt16:=by
 refine con_is (C:=csF16) x122 (by kernel_rfl) (by simp [csF16,conIn16]) fun x hx hf=>?_
 obtain ⟨⟨(W:List DWin),(L:List DLeg),(R:List DRide)⟩,(g:List Int),_⟩:=x
 have hgl:g.length≤9223372036854775807:=hf.2.1.1
 dsimp only [entFt16,x122];simp only [↓hcsF16,entIn16,go_sem,Nat.reduceAdd,Nat.reduceSub,Nat.reduceMul,Nat.reduceLT,Nat.reduceLeDiff,Nat.reduceEqDiff,Nat.reduceBEq,Nat.reduceBNe,List.reduceReplicate,reduceIte,reduceCtorEq,↓reduceIte];try simp only [td,reduceCtorEq]
 refine XW_for 1000 x122_0d [0] Nat (fun j=>[(5,.val (.int .i64) (j:Int))]) (fun _=>[]) (fun j=>j≤g.length∧∀ k,k < j→in3 (g.getD k 0) 0 2097152=true) (fun j=>g.length - j) 0 ?_ ?_ ?_
 ·dsimp only [x122_0d]
  simp only [go_sem,Nat.reduceAdd,Nat.reduceSub,Nat.reduceMul,Nat.reduceLT,Nat.reduceLeDiff,Nat.reduceEqDiff,Nat.reduceBEq,Nat.reduceBNe,List.reduceReplicate,reduceIte,reduceCtorEq,↓reduceIte]
  try trivial
 ·exact ⟨Nat.zero_le _,fun k hk=>absurd hk (Nat.not_lt_zero _)⟩
 rintro j ⟨hj,hn⟩
 have w2:j < g.length→IntKind.i64.wrap ((j:Int)+1)=((j+1:Nat):Int):=fun h=>i64_in _ (by omega)
 dsimp only [x122_0,x122_0d]
 simp only [↓hcsF16,entIn16,go_sem,Nat.reduceAdd,Nat.reduceSub,Nat.reduceMul,Nat.reduceLT,Nat.reduceLeDiff,Nat.reduceEqDiff,Nat.reduceBEq,Nat.reduceBNe,List.reduceReplicate,reduceIte,reduceCtorEq,↓reduceIte]
 try simp only [td,reduceCtorEq]
 refine ⟨fun hj'=>⟨hj',fun q=>?_,fun q=>⟨j+1,by omega,⟨hj',fun k hk=>?_⟩,w2 hj'⟩⟩,fun hj'=>?_⟩
 ·symm
  rw [← Bool.not_eq_true]
  intro z
  unfold fit16 at z
  rw [Bool.and_eq_true,List.all_eq_true] at z
  have:=z.1 _ (getD_mem2 (d:=(0:Int)) hj')
  rw [q] at this
  cases this
 ·by_cases c:k=j
  ·subst c;exact q
  ·exact hn k (by omega)
 ·unfold fit16
  have:(g.all fun n=>in3 n 0 2097152)=true:=List.all_eq_true.2 fun x hx=>by
   obtain ⟨k,hk,rfl⟩:=List.getElem_of_mem hx
   have:=hn k (by omega)
   rwa [show g.getD k 0=g[k] by simp [List.getD,hk]] at this
  rw [this,Bool.true_and,Bool.eq_iff_iff]
  simp
  try omega
def entRun16:Ent:=⟨121,.cons (.st (.cons (.sl (.st (.cons (.int .i64) (.int .i64)))) (.cons (.sl (.st (.cons (.int .i64) (.int .i64)))) (.sl (.st (.cons (.int .i64) (.cons (.int .i64) (.int .i64)))))))) (.cons (.sl (.int .i64)) (.cons (.sl (.int .i64)) .nil)),.cons (.sl (.int .i64)) (.cons (.int .i64) .nil),true,none,fun _=>True,fun x=>((rnF x.1 x.2.1 x.2.2.1).1,(rnF x.1 x.2.1 x.2.2.1).2,())⟩
def csRu6:List Ent:=[entIn16,entRR16,entFt16,entPl16] theorem hcsRu6 (f:FuncId):findEnt csRu6 f=findEnt [entIn16,entRR16,entFt16,entPl16] f:=rfl
theorem conRun16:Con Tryz.prog entRun16:=by
 refine con_is (C:=csRu6) x121 (by kernel_rfl) (by simp [csRu6,conIn16,conRR16,conFt16,conPl16]) fun x hx hf=>?_
 obtain ⟨⟨(W:List DWin),(L:List DLeg),(R:List DRide)⟩,(g:List Int),(t:List Int),_⟩:=x
 dsimp only [entRun16,x121];simp only [↓hcsRu6,entIn16,entRR16,entFt16,entPl16,go_sem,Nat.reduceAdd,Nat.reduceSub,Nat.reduceMul,Nat.reduceLT,Nat.reduceLeDiff,Nat.reduceEqDiff,Nat.reduceBEq,Nat.reduceBNe,List.reduceReplicate,reduceIte,reduceCtorEq,↓reduceIte];try simp only [td,reduceCtorEq]
 have hno:(rightC (W,L,R)=false∨fit16 (W,L,R) g=false)∨¬ t.length=L.length→rnF (W,L,R) g t=([],1):=fun h=>by
  unfold rnF
  rw [if_neg]
  rintro ⟨q1,q2⟩
  have q0:=(fitsG_iff.1 q1).1
  rcases h with (h | h) | h
  ·rw [h] at q0;cases q0
  ·rw [(fit16_iff q0).2 q1] at h;cases h
  ·exact h (tookB_iff.1 q2).1
 refine ⟨fun h=>by rw [hno h],?_⟩
 rintro ⟨⟨hr,hg0⟩,ht⟩
 have hg:=(fit16_iff hr).1 hg0
 obtain ⟨_,hgl,hgw⟩:=fitsG_iff.1 hg
 have hc:=(rightC_iff.1 hr).1
 dsimp only at hgl hc
 refine XW_for 1000 x121_0d [0] Nat (fun j=>[(8,.val (.int .i64) (j:Int))]) (fun _=>[]) (fun j=>j≤t.length∧∀ k,k < j→(L.getD k (0,0)).1≤t.getD k 0∧t.getD k 0≤(L.getD k (0,0)).2) (fun j=>t.length - j) 0 ?_ ?_ ?_
 ·dsimp only [x121_0d]
  simp only [go_sem,Nat.reduceAdd,Nat.reduceSub,Nat.reduceMul,Nat.reduceLT,Nat.reduceLeDiff,Nat.reduceEqDiff,Nat.reduceBEq,Nat.reduceBNe,List.reduceReplicate,reduceIte,reduceCtorEq,↓reduceIte]
  try trivial
 ·exact ⟨Nat.zero_le _,fun k hk=>absurd hk (Nat.not_lt_zero _)⟩
 rintro j ⟨hj,hn⟩
 have w2:j < t.length→IntKind.i64.wrap ((j:Int)+1)=((j+1:Nat):Int):=fun h=>i64_in _ (by omega)
 dsimp only [x121_0,x121_0d]
 simp only [↓hcsRu6,entIn16,entRR16,entFt16,entPl16,go_sem,Nat.reduceAdd,Nat.reduceSub,Nat.reduceMul,Nat.reduceLT,Nat.reduceLeDiff,Nat.reduceEqDiff,Nat.reduceBEq,Nat.reduceBNe,List.reduceReplicate,reduceIte,reduceCtorEq,↓reduceIte]
 try simp only [td,reduceCtorEq]
 refine ⟨fun hj'=>⟨⟨hj',by omega⟩,fun q=>?_,fun q=>⟨j+1,by omega,⟨hj',fun k hk=>?_⟩,w2 hj'⟩⟩,fun hj'=>?_⟩
 ·unfold rnF
  rw [if_neg]
  rintro ⟨_,q2⟩
  have:=(tookB_iff.1 q2).2 j (by dsimp only;omega)
  dsimp only at this
  have z:in3 (t.getD j 0) (L.getD j (0,0)).1 (L.getD j (0,0)).2=true:=decide_eq_true this
  rw [q] at z
  cases z
 ·by_cases c:k=j
  ·subst c;exact of_decide_eq_true q
  ·exact hn k (by omega)
 ·have htb:tookB L t=true:=tookB_iff.2 ⟨ht,fun k hk=>hn k (by omega)⟩
  refine ⟨⟨⟨by omega,hgl,by omega⟩,hgw,took_within hr htb⟩,?_⟩
  unfold rnF
  rw [if_pos ⟨hg,htb⟩]
def entWst16:Ent:=⟨62,.cons (.st (.cons (.sl (.st (.cons (.int .i64) (.int .i64)))) (.cons (.sl (.st (.cons (.int .i64) (.int .i64)))) (.sl (.st (.cons (.int .i64) (.cons (.int .i64) (.int .i64)))))))) (.cons (.sl (.int .i64)) .nil),.cons (.sl (.int .i64)) (.cons (.int .i64) .nil),true,none,fun _=>True,fun x=>((worstF x.1 x.2.1).1,(worstF x.1 x.2.1).2,())⟩
def csWs6:List Ent:=[entRR16,entFt16,entPl16,entHi16] theorem hcsWs6 (f:FuncId):findEnt csWs6 f=findEnt [entRR16,entFt16,entPl16,entHi16] f:=rfl
theorem conWst16:Con Tryz.prog entWst16:=by
 refine con_is (C:=csWs6) x62 (by kernel_rfl) (by simp [csWs6,conRR16,conFt16,conPl16,conHi16]) fun x hx hf=>?_
 obtain ⟨⟨(W:List DWin),(L:List DLeg),(R:List DRide)⟩,(g:List Int),_⟩:=x
 dsimp only [entWst16,x62];simp only [↓hcsWs6,entRR16,entFt16,entPl16,entHi16,go_sem,Nat.reduceAdd,Nat.reduceSub,Nat.reduceMul,Nat.reduceLT,Nat.reduceLeDiff,Nat.reduceEqDiff,Nat.reduceBEq,Nat.reduceBNe,List.reduceReplicate,reduceIte,reduceCtorEq,↓reduceIte];try simp only [td,reduceCtorEq]
 refine ⟨fun h=>?_,?_⟩
 ·unfold worstF
  rw [if_neg]
  intro q1
  have q0:=(fitsG_iff.1 q1).1
  rcases h with h | h
  ·rw [h] at q0;cases q0
  ·rw [(fit16_iff q0).2 q1] at h;cases h
 ·rintro ⟨hr,hg0⟩
  have hg:=(fit16_iff hr).1 hg0
  obtain ⟨_,hgl,hgw⟩:=fitsG_iff.1 hg
  have hc:=(rightC_iff.1 hr).1
  dsimp only at hgl hc
  refine ⟨⟨by omega,⟨by rw [highs_len];omega,hgl,by omega⟩,hgw,highs_within hr⟩,?_⟩
  unfold worstF
  rw [if_pos hg]
def entKp16:Ent:=⟨135,.cons (.st (.cons (.sl (.st (.cons (.int .i64) (.int .i64)))) (.cons (.sl (.st (.cons (.int .i64) (.int .i64)))) (.sl (.st (.cons (.int .i64) (.cons (.int .i64) (.int .i64)))))))) (.cons (.sl (.int .i64)) .nil),.bool,false,none,fun _=>True,fun x=>keepsF x.1 x.2.1⟩
def csK16:List Ent:=[entIn16,entRR16] theorem hcsK16 (f:FuncId):findEnt csK16 f=findEnt [entIn16,entRR16] f:=rfl
theorem conKp16:Con Tryz.prog entKp16:=by
 refine con_is (C:=csK16) x135 (by kernel_rfl) (by simp [csK16,conIn16,conRR16]) fun x hx hf=>?_
 obtain ⟨⟨(W:List DWin),(L:List DLeg),(R:List DRide)⟩,(t:List Int),_⟩:=x
 dsimp only [entKp16,x135];simp only [↓hcsK16,entIn16,entRR16,go_sem,Nat.reduceAdd,Nat.reduceSub,Nat.reduceMul,Nat.reduceLT,Nat.reduceLeDiff,Nat.reduceEqDiff,Nat.reduceBEq,Nat.reduceBNe,List.reduceReplicate,reduceIte,reduceCtorEq,↓reduceIte];try simp only [td,reduceCtorEq]
 have hW:W.length≤9223372036854775807:=hf.1.1.1
 have hno:(keepsF (W,L,R) t=true→False)→false=keepsF (W,L,R) t:=fun h=>by
  symm
  rw [← Bool.not_eq_true]
  exact h
 refine ⟨fun h=>hno fun q=>?_,?_⟩
 ·obtain ⟨q1,q2,_⟩:=keepsF_iff.1 q
  rcases h with h | h
  ·rw [h] at q1;cases q1
  ·exact h q2
 rintro ⟨hr,hl⟩
 have hc:=(rightC_iff.1 hr).1
 dsimp only at hc
 refine XW_for 1000 x135_0d [0] Nat (fun j=>[(5,.val (.int .i64) (j:Int))]) (fun _=>[]) (fun j=>j≤t.length∧∀ k,k < j→(W.getD k (0,0)).1≤t.getD k 0∧t.getD k 0≤(W.getD k (0,0)).2) (fun j=>t.length - j) 0 ?_ ?_ ?_
 ·dsimp only [x135_0d]
  simp only [go_sem,Nat.reduceAdd,Nat.reduceSub,Nat.reduceMul,Nat.reduceLT,Nat.reduceLeDiff,Nat.reduceEqDiff,Nat.reduceBEq,Nat.reduceBNe,List.reduceReplicate,reduceIte,reduceCtorEq,↓reduceIte]
  try trivial
 ·exact ⟨Nat.zero_le _,fun k hk=>absurd hk (Nat.not_lt_zero _)⟩
 rintro j ⟨hj,hn⟩
 have w2:j < t.length→IntKind.i64.wrap ((j:Int)+1)=((j+1:Nat):Int):=fun h=>i64_in _ (by omega)
 dsimp only [x135_0,x135_0d]
 simp only [↓hcsK16,entIn16,entRR16,go_sem,Nat.reduceAdd,Nat.reduceSub,Nat.reduceMul,Nat.reduceLT,Nat.reduceLeDiff,Nat.reduceEqDiff,Nat.reduceBEq,Nat.reduceBNe,List.reduceReplicate,reduceIte,reduceCtorEq,↓reduceIte]
 try simp only [td,reduceCtorEq]
 have ht0:(¬ j < t.length)→∀ k,0≤t.getD k 0∧t.getD k 0≤1048576:=fun hj' k=>by
  by_cases c:k < W.length
  ·have h1:=hn k (by omega)
   have h2:=right_win hr (k:=k) c
   dsimp only at h2
   omega
  ·rw [List.getD_eq_getElem?_getD,List.getElem?_eq_none (by omega)]
   exact ⟨Int.le_refl _,by show (0:Int)≤1048576;omega⟩
 refine ⟨fun hj'=>⟨⟨hj',by omega⟩,fun q=>?_,fun q=>⟨j+1,by omega,⟨hj',fun k hk=>?_⟩,w2 hj'⟩⟩,fun hj'=>?_⟩
 ·refine hno fun q2=>?_
  have:=(keepsF_iff.1 q2).2.2.1 j (by dsimp only;omega)
  dsimp only at this
  have z:in3 (t.getD j 0) (W.getD j (0,0)).1 (W.getD j (0,0)).2=true:=decide_eq_true this
  rw [q] at z
  cases z
 ·by_cases c:k=j
  ·subst c;exact of_decide_eq_true q
  ·exact hn k (by omega)
 have ht0:=ht0 hj'
 refine XW_for 2000 x135_1d [0] Nat (fun i=>[(6,.val (.int .i64) (i:Int))]) (fun _=>[]) (fun i=>i≤R.length∧∀ k,k < i→t.getD (R.getD k (0,0,0)).2.1.toNat 0 - t.getD (R.getD k (0,0,0)).1.toNat 0≤(R.getD k (0,0,0)).2.2) (fun i=>R.length - i) 0 ?_ ?_ ?_
 ·dsimp only [x135_1d]
  simp only [go_sem,Nat.reduceAdd,Nat.reduceSub,Nat.reduceMul,Nat.reduceLT,Nat.reduceLeDiff,Nat.reduceEqDiff,Nat.reduceBEq,Nat.reduceBNe,List.reduceReplicate,reduceIte,reduceCtorEq,↓reduceIte]
  try trivial
 ·exact ⟨Nat.zero_le _,fun k hk=>absurd hk (Nat.not_lt_zero _)⟩
 rintro i ⟨hi,hm⟩
 have w3:i < R.length→IntKind.i64.wrap ((i:Int)+1)=((i+1:Nat):Int):=fun h=>by
  have:=hc.2.2.2
  exact i64_in _ (by omega)
 dsimp only [x135_1,x135_1d]
 simp only [↓hcsK16,entIn16,entRR16,go_sem,Nat.reduceAdd,Nat.reduceSub,Nat.reduceMul,Nat.reduceLT,Nat.reduceLeDiff,Nat.reduceEqDiff,Nat.reduceBEq,Nat.reduceBNe,List.reduceReplicate,reduceIte,reduceCtorEq,↓reduceIte]
 try simp only [td,reduceCtorEq]
 refine ⟨fun hi'=>?_,fun hi'=>?_⟩
 ·have hrd:=right_ride hr (k:=i) hi'
  dsimp only at hrd
  have e1:=ht0 (R.getD i (0,0,0)).2.1.toNat
  have e2:=ht0 (R.getD i (0,0,0)).1.toNat
  have hw:IntKind.i64.wrap (t.getD (R.getD i (0,0,0)).2.1.toNat 0 - t.getD (R.getD i (0,0,0)).1.toNat 0)=t.getD (R.getD i (0,0,0)).2.1.toNat 0 - t.getD (R.getD i (0,0,0)).1.toNat 0:=i64_in _ (by omega)
  rw [hw]
  refine ⟨hi',⟨⟨by omega,by omega⟩,by omega,by omega⟩,fun q=>hno fun q2=>?_,fun q=>⟨i+1,by omega,⟨hi',fun k hk=>?_⟩,w3 hi'⟩⟩
  ·have:=(keepsF_iff.1 q2).2.2.2 _ (getD_mem2 (d:=(0,0,0)) hi')
   dsimp only at this
   omega
  ·by_cases c:k=i
   ·subst c;exact q
   ·exact hm k (by omega)
 ·symm
  refine keepsF_iff.2 ⟨hr,hl,fun k hk=>hn k (by dsimp only at hk;omega),fun r hrm=>?_⟩
  obtain ⟨k,hk,rfl⟩:=List.getElem_of_mem hrm
  have h1:=hm k (by dsimp only at hk;omega)
  have:R.getD k (0,0,0)=R[k]:=by simp [List.getD,hk]
  rw [this] at h1
  exact h1
def entInt16:Ent:=⟨22,.cons (.sl (.int .i64)) (.cons (.sl (.int .i64)) .nil),.bool,false,none,fun _=>True,fun x=>decide ((x.1:List Int)=x.2.1)⟩
def csI16:List Ent:=[] theorem hcsI16 (f:FuncId):findEnt csI16 f=findEnt [] f:=rfl
theorem conInt16:Con Tryz.prog entInt16:=by
 refine con_is (C:=csI16) x22 (by kernel_rfl) (by simp [csI16]) fun x hx hf=>?_
 obtain ⟨(a:List Int),(b:List Int),_⟩:=x
 have hal:a.length≤9223372036854775807:=hf.1.1
 dsimp only [entInt16,x22];simp only [↓hcsI16,go_sem,Nat.reduceAdd,Nat.reduceSub,Nat.reduceMul,Nat.reduceLT,Nat.reduceLeDiff,Nat.reduceEqDiff,Nat.reduceBEq,Nat.reduceBNe,List.reduceReplicate,reduceIte,reduceCtorEq,↓reduceIte];try simp only [td,reduceCtorEq]
 refine ⟨fun h=>(decide_eq_false fun e=>h (by rw [e])).symm,fun h=>?_⟩
 refine XW_for 1000 x22_0d [] Nat (fun k=>[(5,.val (.int .i64) (k:Int))]) (fun _=>[]) (fun k=>k≤a.length∧∀ j,j < k→a.getD j 0=b.getD j 0) (fun k=>a.length - k) 0 ?_ ?_ ?_
 ·dsimp only [x22_0d];simp only [go_sem,Nat.reduceAdd,Nat.reduceSub,Nat.reduceMul,Nat.reduceLT,Nat.reduceLeDiff,Nat.reduceEqDiff,Nat.reduceBEq,Nat.reduceBNe,List.reduceReplicate,reduceIte,reduceCtorEq,↓reduceIte]
  rfl
 ·exact ⟨by omega,fun j hj=>by omega⟩
 ·intro k hk
  dsimp only [x22_0,x22_0d];simp only [go_sem,Nat.reduceAdd,Nat.reduceSub,Nat.reduceMul,Nat.reduceLT,Nat.reduceLeDiff,Nat.reduceEqDiff,Nat.reduceBEq,Nat.reduceBNe,List.reduceReplicate,reduceIte,reduceCtorEq,↓reduceIte]
  by_cases hkl:k < a.length
  ·simp only [hkl,← h,td,reduceCtorEq]
   refine ⟨fun e=>(decide_eq_false fun q=>e (by rw [q])).symm,fun e=>⟨k+1,by omega,⟨by omega,fun j hj=>?_⟩,i64_in _ (by omega)⟩⟩
   rcases Nat.lt_succ_iff_lt_or_eq.1 hj with h' | rfl
   ·exact hk.2 j h'
   ·exact e
  ·simp only [hkl,td,reduceCtorEq]
   refine (decide_eq_true (List.ext_getElem h fun j h1 h2=>?_)).symm
   have:=hk.2 j (by omega)
   simpa [List.getD,h1,h2] using this
end T
end Go.Proofs.YtecdcopihghnaaaGreat
end
section
namespace Go.Proofs.YtecdcopihghnaaaGreat
set_option linter.unusedVariables false
set_option linter.unusedSimpArgs false
open Go.RowKit Go.IntWalk
namespace T
theorem range_map_s2 {α:Type} (f:Nat→α) (j:Nat):(List.range j).map f ++ [f j]=(List.range (j+1)).map f:=by
 rw [List.range_succ,List.map_append];rfl
def entLw20:Ent:=⟨93,.cons (.sl (.st (.cons (.int .i64) (.int .i64)))) .nil,(.sl (.int .i64)),false,none,fun x=>List.length (α:=DLeg) x.1≤1000,fun x=>lowsF x.1⟩
def csLw20:List Ent:=[] theorem hcsLw20 (f:FuncId):findEnt csLw20 f=findEnt [] f:=rfl
theorem conLw20:Con Tryz.prog entLw20:=by
 refine con_is (C:=csLw20) x93 (by kernel_rfl) (by simp [csLw20]) fun x hx hf=>?_
 obtain ⟨(L:List DLeg),_⟩:=x
 have hL:L.length≤1000:=hx
 dsimp only [entLw20,x93];simp only [↓hcsLw20,go_sem,Nat.reduceAdd,Nat.reduceSub,Nat.reduceMul,Nat.reduceLT,Nat.reduceLeDiff,Nat.reduceEqDiff,Nat.reduceBEq,Nat.reduceBNe,List.reduceReplicate,reduceIte,reduceCtorEq,↓reduceIte];try simp only [td,reduceCtorEq]
 refine XW_for 1000 x93_0d [] Nat (fun j=>[(7,.val (.int .i64) (j:Int)),(2,.own 0)]) (fun j=>[(0,.row 3 (.int .i64) ((lowsF L).take j))]) (fun j=>j≤L.length) (fun j=>L.length - j) 0 ?_ ?_ ?_
 ·dsimp only [x93_0d]
  simp only [go_sem,Nat.reduceAdd,Nat.reduceSub,Nat.reduceMul,Nat.reduceLT,Nat.reduceLeDiff,Nat.reduceEqDiff,Nat.reduceBEq,Nat.reduceBNe,List.reduceReplicate,reduceIte,reduceCtorEq,↓reduceIte]
  try trivial
 ·exact Nat.zero_le _
 intro j hj
 have w2:j < L.length→IntKind.i64.wrap ((j:Int)+1)=((j+1:Nat):Int):=fun h=>i64_in _ (by omega)
 have hs:j < L.length→(lowsF L).take j ++ [(L.getD j (0,0)).1]=(lowsF L).take (j+1):=fun h=>by
  rw [List.take_succ_eq_append_getElem (by rw [lows_len];exact h),← lows_getD]
  simp [List.getD,lows_len,h]
 have hlt:((lowsF L).take j).length=j:=by rw [List.length_take,lows_len];omega
 dsimp only [x93_0,x93_0d]
 simp only [↓hcsLw20,hlt,go_sem,Nat.reduceAdd,Nat.reduceSub,Nat.reduceMul,Nat.reduceLT,Nat.reduceLeDiff,Nat.reduceEqDiff,Nat.reduceBEq,Nat.reduceBNe,List.reduceReplicate,reduceIte,reduceCtorEq,↓reduceIte]
 try simp only [hlt,td,reduceCtorEq]
 refine ⟨fun hj'=>⟨hj',by omega,j+1,by omega,hj',w2 hj',hs hj'⟩,fun hj'=>?_⟩
 exact List.take_of_length_le (by rw [lows_len];omega)
def entHg20:Ent:=⟨94,.cons (.sl (.st (.cons (.int .i64) (.int .i64)))) .nil,(.sl (.int .i64)),false,none,fun x=>List.length (α:=DLeg) x.1≤1000,fun x=>highsF x.1⟩
def csHg20:List Ent:=[] theorem hcsHg20 (f:FuncId):findEnt csHg20 f=findEnt [] f:=rfl
theorem conHg20:Con Tryz.prog entHg20:=by
 refine con_is (C:=csHg20) x94 (by kernel_rfl) (by simp [csHg20]) fun x hx hf=>?_
 obtain ⟨(L:List DLeg),_⟩:=x
 have hL:L.length≤1000:=hx
 dsimp only [entHg20,x94];simp only [↓hcsHg20,go_sem,Nat.reduceAdd,Nat.reduceSub,Nat.reduceMul,Nat.reduceLT,Nat.reduceLeDiff,Nat.reduceEqDiff,Nat.reduceBEq,Nat.reduceBNe,List.reduceReplicate,reduceIte,reduceCtorEq,↓reduceIte];try simp only [td,reduceCtorEq]
 refine XW_for 1000 x94_0d [] Nat (fun j=>[(7,.val (.int .i64) (j:Int)),(2,.own 0)]) (fun j=>[(0,.row 3 (.int .i64) ((highsF L).take j))]) (fun j=>j≤L.length) (fun j=>L.length - j) 0 ?_ ?_ ?_
 ·dsimp only [x94_0d]
  simp only [go_sem,Nat.reduceAdd,Nat.reduceSub,Nat.reduceMul,Nat.reduceLT,Nat.reduceLeDiff,Nat.reduceEqDiff,Nat.reduceBEq,Nat.reduceBNe,List.reduceReplicate,reduceIte,reduceCtorEq,↓reduceIte]
  try trivial
 ·exact Nat.zero_le _
 intro j hj
 have w2:j < L.length→IntKind.i64.wrap ((j:Int)+1)=((j+1:Nat):Int):=fun h=>i64_in _ (by omega)
 have hs:j < L.length→(highsF L).take j ++ [(L.getD j (0,0)).2]=(highsF L).take (j+1):=fun h=>by
  rw [List.take_succ_eq_append_getElem (by rw [highs_len];exact h),← highs_getD]
  simp [List.getD,highs_len,h]
 have hlt:((highsF L).take j).length=j:=by rw [List.length_take,highs_len];omega
 dsimp only [x94_0,x94_0d]
 simp only [↓hcsHg20,hlt,go_sem,Nat.reduceAdd,Nat.reduceSub,Nat.reduceMul,Nat.reduceLT,Nat.reduceLeDiff,Nat.reduceEqDiff,Nat.reduceBEq,Nat.reduceBNe,List.reduceReplicate,reduceIte,reduceCtorEq,↓reduceIte]
 try simp only [hlt,td,reduceCtorEq]
 refine ⟨fun hj'=>⟨hj',by omega,j+1,by omega,hj',w2 hj',hs hj'⟩,fun hj'=>?_⟩
 exact List.take_of_length_le (by rw [highs_len];omega)
def entRst:Ent:=⟨41,.cons (.st (.cons (.int .i64) (.cons (.sl (.st (.cons (.int .i64) (.cons (.int .i64) (.cons (.sl (.int .i64)) (.sl (.int .i64))))))) (.cons (.sl (.st (.cons (.int .i64) (.cons (.int .i64) (.cons (.int .i64) (.cons (.int .i64) (.cons (.int .i64) (.cons (.int .i64) (.cons (.int .i64) (.cons (.int .i64) (.int .i64))))))))))) (.cons (.sl (.st (.cons (.int .i64) (.cons (.int .i64) (.cons (.int .i64) (.cons (.int .i64) (.cons (.int .i64) (.cons (.int .i64) (.cons (.int .i64) (.cons (.int .i64) (.cons (.int .i64) (.int .i64)))))))))))) (.cons (.sl (.st (.cons (.int .i64) (.cons (.int .i64) .bool)))) (.st (.cons (.int .i64) (.cons (.int .i64) (.int .i64)))))))))) (.cons (.st (.cons (.sl (.st (.cons (.int .i64) (.int .i64)))) (.cons (.sl (.st (.cons (.int .i64) (.int .i64)))) (.sl (.st (.cons (.int .i64) (.cons (.int .i64) (.int .i64)))))))) (.cons (.sl (.int .i64)) .nil)),.bool,false,none,fun x=>fitsG x.2.1 x.2.2.1=true,fun x=>restsF x.1 x.2.1 x.2.2.1⟩
def csRst:List Ent:=[entLw20,entHg20,entRun,entWCk] theorem hcsRst (f:FuncId):findEnt csRst f=findEnt [entLw20,entHg20,entRun,entWCk] f:=rfl
theorem conRst:Con Tryz.prog entRst:=by
 refine con_is (C:=csRst) x41 (by kernel_rfl) (by simp [csRst,conLw20,conHg20,conRun,conWCk]) fun x hx hf=>?_
 obtain ⟨⟨(N:Int),(A:List DArc),(C:List DCar),(Q:List DReq),(P:List DPair),(S1:Int),(S2:Int),(S3:Int)⟩,⟨(W:List DWin),(L:List DLeg),(R:List DRide)⟩,(g:List Int),_⟩:=x
 replace hx:fitsG (W,L,R) g=true:=hx
 obtain ⟨hr,hgl,hgw⟩:=fitsG_iff.1 hx
 have hlen:=(rightC_iff.1 hr).1
 dsimp only at hgl hlen
 have h1:rnF (W,L,R) g (lowsF L)=(playF g (lowsF L),0):=rn_lows hx
 have h2:rnF (W,L,R) g (highsF L)=(playF g (highsF L),0):=rn_highs hx
 have hLl:L.length≤1000:=by omega
 have hLi:(L.length:Int)≤1000:=by omega
 dsimp only [entRst,x41];simp only [↓hcsRst,entLw20,entHg20,entRun,entWCk,h1,h2,hLl,hLi,go_sem,Nat.reduceAdd,Nat.reduceSub,Nat.reduceMul,Nat.reduceLT,Nat.reduceLeDiff,Nat.reduceEqDiff,Nat.reduceBEq,Nat.reduceBNe,List.reduceReplicate,reduceIte,reduceCtorEq,↓reduceIte]
 try simp only [h1,h2,hLl,hLi,td,reduceCtorEq]
 refine ⟨by omega,?_⟩
 have hbd:∀ {t:List Int},Within 0 1048576 t→t.length=L.length→∀ k,0≤(playF g t).getD k 0∧(playF g t).getD k 0≤100000000:=fun {t} ht hl k=>by
  rcases Nat.lt_or_ge t.length k with q | q
  ·rw [List.getD_eq_getElem?_getD,List.getElem?_eq_none (by rw [playF_len];omega)]
   exact ⟨Int.le_refl _,by decide⟩
  ·rw [playF_getD g t q]
   have:=tmF_bd hgw ht k
   omega
 have hH:=hbd (highs_within hr) (highs_len L)
 have hE:=hbd (took_within hr (legs_took hr).1) (lows_len L)
 dsimp only at hH hE
 have hHl:(playF g (highsF L)).length=L.length+1:=by rw [playF_len,highs_len]
 have hEl:(playF g (lowsF L)).length=L.length+1:=by rw [playF_len,lows_len]
 have hres:restsF (N,A,C,Q,P,S1,S2,S3) (W,L,R) g=decide ((checkK (S1,S2,S3) L (waitsF (W,L,R) g)).2=0):=rfl
 refine XW_for 1000 x41_0d [0,1] Nat (fun j=>[(12,.val (.int .i64) (j:Int))]) (fun j=>[(28,.row 72 (.st (.cons (.int .i64) (.int .i64))) (waitsTo (W,L,R) g j))]) (fun j=>1≤j∧j≤L.length+1) (fun j=>L.length+1 - j) 1 ?_ ?_ ?_
 ·dsimp only [x41_0d]
  simp only [go_sem,Nat.reduceAdd,Nat.reduceSub,Nat.reduceMul,Nat.reduceLT,Nat.reduceLeDiff,Nat.reduceEqDiff,Nat.reduceBEq,Nat.reduceBNe,List.reduceReplicate,reduceIte,reduceCtorEq,↓reduceIte]
  exact ⟨rfl,(waitsTo_1 (W,L,R) g).symm⟩
 ·exact ⟨Nat.le_refl _,by omega⟩
 rintro j ⟨hj1,hj2⟩
 have hwl:(waitsTo (W,L,R) g j).length=L.length:=waitsTo_len _ _ _
 by_cases hjl:j < L.length
 ·have w2:IntKind.i64.wrap ((j:Int)+1)=((j+1:Nat):Int):=i64_in _ (by omega)
  have w3:IntKind.i64.wrap ((j:Int) - 1)=((j - 1:Nat):Int):=(i64_in _ (by omega)).trans (by omega)
  have hlg:=right_leg hr (k:=j - 1) (show j - 1 < L.length by omega)
  replace hlg:0≤(L.getD (j - 1) (0,0)).1∧(L.getD (j - 1) (0,0)).1≤(L.getD (j - 1) (0,0)).2∧(L.getD (j - 1) (0,0)).2≤1048576:=hlg
  have b1:=hH j
  have b2:=hH (j - 1)
  have b3:=hE j
  have b4:=hE (j - 1)
  have hat:waitAt (W,L,R) g j=((playF g (highsF L)).getD j 0 - (playF g (highsF L)).getD (j - 1) 0 - (L.getD (j - 1) (0,0)).2,(playF g (lowsF L)).getD j 0 - (playF g (lowsF L)).getD (j - 1) 0 - (L.getD (j - 1) (0,0)).1):=by
   unfold waitAt;rw [if_neg (by omega)]
  have hset:=waitsTo_set (W,L,R) g j
  rw [hat] at hset
  have v1:IntKind.i64.wrap ((playF g (highsF L)).getD j 0 - (playF g (highsF L)).getD (j - 1) 0)=(playF g (highsF L)).getD j 0 - (playF g (highsF L)).getD (j - 1) 0:=i64_in _ (by omega)
  have v2:IntKind.i64.wrap ((playF g (highsF L)).getD j 0 - (playF g (highsF L)).getD (j - 1) 0 - (L.getD (j - 1) (0,0)).2)=(playF g (highsF L)).getD j 0 - (playF g (highsF L)).getD (j - 1) 0 - (L.getD (j - 1) (0,0)).2:=i64_in _ (by omega)
  have v3:IntKind.i64.wrap ((playF g (lowsF L)).getD j 0 - (playF g (lowsF L)).getD (j - 1) 0)=(playF g (lowsF L)).getD j 0 - (playF g (lowsF L)).getD (j - 1) 0:=i64_in _ (by omega)
  have v4:IntKind.i64.wrap ((playF g (lowsF L)).getD j 0 - (playF g (lowsF L)).getD (j - 1) 0 - (L.getD (j - 1) (0,0)).1)=(playF g (lowsF L)).getD j 0 - (playF g (lowsF L)).getD (j - 1) 0 - (L.getD (j - 1) (0,0)).1:=i64_in _ (by omega)
  dsimp only [x41_0,x41_0d];simp only [↓hcsRst,entLw20,entHg20,entRun,entWCk,hwl,hHl,hEl,hjl,w2,w3,v1,v2,v3,v4,Int.toNat_natCast,go_sem,Nat.reduceAdd,Nat.reduceSub,Nat.reduceMul,Nat.reduceLT,Nat.reduceLeDiff,Nat.reduceEqDiff,Nat.reduceBEq,Nat.reduceBNe,List.reduceReplicate,reduceIte,reduceCtorEq,↓reduceIte]
  simp only [hwl,hHl,hEl,hjl,w2,w3,v1,v2,v3,v4,hset,Int.toNat_natCast,td,reduceCtorEq]
  exact ⟨by omega,j+1,by omega,⟨by omega,by omega⟩,rfl,rfl⟩
 ·have hall:=waitsTo_all (W,L,R) g (j:=j) (Nat.le_of_not_lt hjl)
  have hck:∀ l,(checkK (S1,S2,S3) L l).2=(checkK (S1,S2,S3) L l).2:=fun _=>rfl
  dsimp only [x41_0,x41_0d];simp only [↓hcsRst,entLw20,entHg20,entRun,entWCk,hwl,hjl,hall,hres,go_sem,Nat.reduceAdd,Nat.reduceSub,Nat.reduceMul,Nat.reduceLT,Nat.reduceLeDiff,Nat.reduceEqDiff,Nat.reduceBEq,Nat.reduceBNe,List.reduceReplicate,reduceIte,reduceCtorEq,↓reduceIte]
  try simp only [hwl,hjl,hall,hres,td,reduceCtorEq]
  have hwf:(waitsF (W,L,R) g).length=L.length:=by unfold waitsF;rw [List.length_map,List.length_range]
  exact ⟨fun h=>absurd (by rw [← hwf];exact h) hjl,fun _=>by rw [Bool.eq_iff_iff,beq_iff_eq,decide_eq_true_eq]⟩
def entWt20:Ent:=⟨61,.cons (.st (.cons (.sl (.st (.cons (.int .i64) (.int .i64)))) (.cons (.sl (.st (.cons (.int .i64) (.int .i64)))) (.sl (.st (.cons (.int .i64) (.cons (.int .i64) (.int .i64)))))))) (.cons (.sl (.int .i64)) .nil),(.sl (.st (.cons (.int .i64) (.int .i64)))),false,none,fun x=>fitsG x.1 x.2.1=true,fun x=>waitsF x.1 x.2.1⟩
def csWt2:List Ent:=[entLs19,entHs19,entRun16] theorem hcsWt2 (f:FuncId):findEnt csWt2 f=findEnt [entLs19,entHs19,entRun16] f:=rfl
theorem conWt20:Con Tryz.prog entWt20:=by
 refine con_is (C:=csWt2) x61 (by kernel_rfl) (by simp [csWt2,conLs19,conHs19,conRun16]) fun x hx hf=>?_
 obtain ⟨⟨(W:List DWin),(L:List DLeg),(R:List DRide)⟩,(g:List Int),_⟩:=x
 replace hx:fitsG (W,L,R) g=true:=hx
 obtain ⟨hr,hgl,hgw⟩:=fitsG_iff.1 hx
 have hlen:=(rightC_iff.1 hr).1
 dsimp only at hgl hlen
 have h1:rnF (W,L,R) g (lowsF L)=(playF g (lowsF L),0):=rn_lows hx
 have h2:rnF (W,L,R) g (highsF L)=(playF g (highsF L),0):=rn_highs hx
 have hLl:L.length≤1000:=by omega
 dsimp only [entWt20,x61];simp only [↓hcsWt2,entLs19,entHs19,entRun16,h1,h2,hLl,go_sem,Nat.reduceAdd,Nat.reduceSub,Nat.reduceMul,Nat.reduceLT,Nat.reduceLeDiff,Nat.reduceEqDiff,Nat.reduceBEq,Nat.reduceBNe,List.reduceReplicate,reduceIte,reduceCtorEq,↓reduceIte]
 try simp only [h1,h2,hLl,td,reduceCtorEq]
 have hbd:∀ {t:List Int},Within 0 1048576 t→t.length=L.length→∀ k,0≤(playF g t).getD k 0∧(playF g t).getD k 0≤100000000:=fun {t} ht hl k=>by
  rcases Nat.lt_or_ge t.length k with q | q
  ·rw [List.getD_eq_getElem?_getD,List.getElem?_eq_none (by rw [playF_len];omega)]
   exact ⟨Int.le_refl _,by decide⟩
  ·rw [playF_getD g t q]
   have:=tmF_bd hgw ht k
   omega
 have hH:=hbd (highs_within hr) (highs_len L)
 have hE:=hbd (took_within hr (legs_took hr).1) (lows_len L)
 dsimp only at hH hE
 have hHl:(playF g (highsF L)).length=L.length+1:=by rw [playF_len,highs_len]
 have hEl:(playF g (lowsF L)).length=L.length+1:=by rw [playF_len,lows_len]
 refine XW_for 1000 x61_0d [0] Nat (fun j=>[(10,.val (.int .i64) (j:Int)),(9,.own 24)]) (fun j=>[(24,.row 72 (.st (.cons (.int .i64) (.int .i64))) ((List.range j).map (waitAt (W,L,R) g)))]) (fun j=>j≤L.length) (fun j=>L.length - j) 0 ?_ ?_ ?_
 ·dsimp only [x61_0d]
  simp only [go_sem,Nat.reduceAdd,Nat.reduceSub,Nat.reduceMul,Nat.reduceLT,Nat.reduceLeDiff,Nat.reduceEqDiff,Nat.reduceBEq,Nat.reduceBNe,List.reduceReplicate,reduceIte,reduceCtorEq,↓reduceIte]
  try trivial
 ·exact Nat.zero_le _
 intro j hj
 have hwl:((List.range j).map (waitAt (W,L,R) g)).length=j:=by rw [List.length_map,List.length_range]
 have hms:=range_map_s2 (waitAt (W,L,R) g) j
 by_cases hjl:j < L.length
 ·have w2:IntKind.i64.wrap ((j:Int)+1)=((j+1:Nat):Int):=i64_in _ (by omega)
  by_cases hj0:j=0
  ·subst hj0
   have hat:waitAt (W,L,R) g 0=(0,0):=rfl
   rw [hat] at hms
   dsimp only [x61_0,x61_0d];simp only [↓hcsWt2,entLs19,entHs19,entRun16,hwl,hHl,hEl,hjl,w2,Int.toNat_natCast,Int.natCast_zero,go_sem,Nat.reduceAdd,Nat.reduceSub,Nat.reduceMul,Nat.reduceLT,Nat.reduceLeDiff,Nat.reduceEqDiff,Nat.reduceBEq,Nat.reduceBNe,List.reduceReplicate,reduceIte,reduceCtorEq,↓reduceIte]
   simp only [hwl,hHl,hEl,hjl,w2,hms,Int.toNat_natCast,Int.natCast_zero,td,reduceCtorEq]
   exact ⟨fun _=>⟨1,by omega,by omega,by decide,rfl⟩,fun h=>by omega⟩
  have hj0':¬ (j:Int)=0:=by omega
  have w3:IntKind.i64.wrap ((j:Int) - 1)=((j - 1:Nat):Int):=(i64_in _ (by omega)).trans (by omega)
  have hlg:=right_leg hr (k:=j - 1) (show j - 1 < L.length by omega)
  replace hlg:0≤(L.getD (j - 1) (0,0)).1∧(L.getD (j - 1) (0,0)).1≤(L.getD (j - 1) (0,0)).2∧(L.getD (j - 1) (0,0)).2≤1048576:=hlg
  have b1:=hH j
  have b2:=hH (j - 1)
  have b3:=hE j
  have b4:=hE (j - 1)
  have hat:waitAt (W,L,R) g j=((playF g (highsF L)).getD j 0 - (playF g (highsF L)).getD (j - 1) 0 - (L.getD (j - 1) (0,0)).2,(playF g (lowsF L)).getD j 0 - (playF g (lowsF L)).getD (j - 1) 0 - (L.getD (j - 1) (0,0)).1):=by
   unfold waitAt;rw [if_neg hj0]
  rw [hat] at hms
  have v1:IntKind.i64.wrap ((playF g (highsF L)).getD j 0 - (playF g (highsF L)).getD (j - 1) 0)=(playF g (highsF L)).getD j 0 - (playF g (highsF L)).getD (j - 1) 0:=i64_in _ (by omega)
  have v2:IntKind.i64.wrap ((playF g (highsF L)).getD j 0 - (playF g (highsF L)).getD (j - 1) 0 - (L.getD (j - 1) (0,0)).2)=(playF g (highsF L)).getD j 0 - (playF g (highsF L)).getD (j - 1) 0 - (L.getD (j - 1) (0,0)).2:=i64_in _ (by omega)
  have v3:IntKind.i64.wrap ((playF g (lowsF L)).getD j 0 - (playF g (lowsF L)).getD (j - 1) 0)=(playF g (lowsF L)).getD j 0 - (playF g (lowsF L)).getD (j - 1) 0:=i64_in _ (by omega)
  have v4:IntKind.i64.wrap ((playF g (lowsF L)).getD j 0 - (playF g (lowsF L)).getD (j - 1) 0 - (L.getD (j - 1) (0,0)).1)=(playF g (lowsF L)).getD j 0 - (playF g (lowsF L)).getD (j - 1) 0 - (L.getD (j - 1) (0,0)).1:=i64_in _ (by omega)
  dsimp only [x61_0,x61_0d];simp only [↓hcsWt2,entLs19,entHs19,entRun16,hwl,hHl,hEl,hjl,hj0',w2,w3,v1,v2,v3,v4,Int.toNat_natCast,go_sem,Nat.reduceAdd,Nat.reduceSub,Nat.reduceMul,Nat.reduceLT,Nat.reduceLeDiff,Nat.reduceEqDiff,Nat.reduceBEq,Nat.reduceBNe,List.reduceReplicate,reduceIte,reduceCtorEq,↓reduceIte]
  simp only [hwl,hHl,hEl,hjl,hj0',w2,w3,v1,v2,v3,v4,hms,Int.toNat_natCast,td,reduceCtorEq]
  exact ⟨by omega,j+1,by omega,by omega,rfl,rfl⟩
 ·obtain rfl:j=L.length:=by omega
  dsimp only [x61_0,x61_0d];simp only [↓hcsWt2,entLs19,entHs19,entRun16,hjl,go_sem,Nat.reduceAdd,Nat.reduceSub,Nat.reduceMul,Nat.reduceLT,Nat.reduceLeDiff,Nat.reduceEqDiff,Nat.reduceBEq,Nat.reduceBNe,List.reduceReplicate,reduceIte,reduceCtorEq,↓reduceIte]
  try simp only [hjl,td,reduceCtorEq]
  rfl
end T
end Go.Proofs.YtecdcopihghnaaaGreat
end
section
namespace Go.Proofs.YtecdcopihghnaaaGreat
set_option linter.unusedVariables false
set_option linter.unusedSimpArgs false
open Go.RowKit Go.IntWalk
namespace T
def entCat:Ent:=⟨96,.cons (.sl (.sl (.int .i64))) .nil,(.sl (.int .i64)),false,none,fun x=>(x.1:List (List Int)).length≤1000∧∀ l ∈ (x.1:List (List Int)),l.length≤1000,fun x=>(x.1:List (List Int)).flatten⟩
def csCat:List Ent:=[entGrow0] theorem hcsCat (f:FuncId):findEnt csCat f=findEnt [entGrow0] f:=rfl
theorem flat_take {S:List (List Int)} {j:Nat} (h:j < S.length):(S.take j).flatten ++ S.getD j []=(S.take (j+1)).flatten:=by
 rw [List.take_succ_eq_append_getElem h,List.flatten_append]
 simp [List.getD,h]
theorem flat_len {S:List (List Int)} (h:∀ l ∈ S,l.length≤1000):∀ j,(S.take j).flatten.length≤1000 * j
 | 0=>by simp
 | j+1=>by
  rcases Nat.lt_or_ge j S.length with q | q
  ·rw [← flat_take q,List.length_append]
   have h1:=flat_len h j
   have h2:(S.getD j []).length≤1000:=h _ (by rw [List.getD_eq_getElem?_getD,List.getElem?_eq_getElem q];exact List.getElem_mem q)
   omega
  ·have h1:=flat_len h j
   rw [List.take_of_length_le (by omega)]
   rw [List.take_of_length_le q] at h1
   omega
set_option maxHeartbeats 1000000 in
theorem conCat:Con Tryz.prog entCat:=by
 refine con_is (C:=csCat) x96 (by kernel_rfl) (by simp [csCat,conGrow0]) fun x hx hf=>?_
 obtain ⟨(S:List (List Int)),_⟩:=x
 obtain ⟨hSl,hSe⟩:=hx
 replace hSl:S.length≤1000:=hSl
 replace hSe:∀ l ∈ S,l.length≤1000:=hSe
 dsimp only [entCat,x96];simp only [↓hcsCat,entGrow0,go_sem,Nat.reduceAdd,Nat.reduceSub,Nat.reduceMul,Nat.reduceLT,Nat.reduceLeDiff,Nat.reduceEqDiff,Nat.reduceBEq,Nat.reduceBNe,List.reduceReplicate,reduceIte,reduceCtorEq,↓reduceIte]
 try simp only [td,reduceCtorEq]
 refine XW_for 1000 x96_0d [] Nat (fun j=>[(11,.val (.int .i64) (j:Int)),(3,.val (.int .i64) (((S.take j).flatten.length:Nat):Int))]) (fun _=>[]) (fun j=>j≤S.length) (fun j=>S.length - j) 0 ?_ ?_ ?_
 ·dsimp only [x96_0d];simp only [go_sem,Nat.reduceAdd,Nat.reduceSub,Nat.reduceMul,Nat.reduceLT,Nat.reduceLeDiff,Nat.reduceEqDiff,Nat.reduceBEq,Nat.reduceBNe,List.reduceReplicate,reduceIte,reduceCtorEq,↓reduceIte];try trivial
 ·exact Nat.zero_le _
 intro j hj
 by_cases hjl:j < S.length
 ·have w2:IntKind.i64.wrap ((j:Int)+1)=((j+1:Nat):Int):=i64_in _ (by omega)
  have h1:=flat_len hSe (j+1)
  have h2:(S.take (j+1)).flatten.length=(S.take j).flatten.length+(S.getD j []).length:=by rw [← flat_take hjl,List.length_append]
  have w3:IntKind.i64.wrap (((S.take j).flatten.length:Int)+((S.getD j []).length:Int))=(((S.take (j+1)).flatten.length:Nat):Int):=(i64_in _ (by omega)).trans (by omega)
  dsimp only [x96_0,x96_0d];simp only [↓hcsCat,entGrow0,hjl,w2,w3,go_sem,Nat.reduceAdd,Nat.reduceSub,Nat.reduceMul,Nat.reduceLT,Nat.reduceLeDiff,Nat.reduceEqDiff,Nat.reduceBEq,Nat.reduceBNe,List.reduceReplicate,reduceIte,reduceCtorEq,↓reduceIte]
  simp only [hjl,w2,w3,td,reduceCtorEq]
  exact ⟨fun h=>by omega,j+1,by omega,by omega,rfl,rfl⟩
 ·obtain rfl:j=S.length:=by omega
  have hfl:(S.take S.length).flatten=S.flatten:=by rw [List.take_length]
  have h1:=flat_len hSe S.length
  rw [hfl] at h1
  have h2:(0:Int)≤(S.flatten.length:Int):=by omega
  have h3:(S.flatten.length:Int)≤1000000:=by omega
  dsimp only [x96_0,x96_0d];simp only [↓hcsCat,entGrow0,hjl,hfl,h2,h3,go_sem,Nat.reduceAdd,Nat.reduceSub,Nat.reduceMul,Nat.reduceLT,Nat.reduceLeDiff,Nat.reduceEqDiff,Nat.reduceBEq,Nat.reduceBNe,List.reduceReplicate,reduceIte,reduceCtorEq,↓reduceIte]
  simp only [hjl,hfl,h2,h3,td,reduceCtorEq]
  refine XW_for 2000 x96_1d [] Nat (fun j=>[(27,.val (.int .i64) (j:Int)),(6,.own 1002)]) (fun j=>[(1002,.row 3 (.int .i64) (S.take j).flatten)]) (fun j=>j≤S.length) (fun j=>S.length - j) 0 ?_ ?_ ?_
  ·dsimp only [x96_1d];simp only [go_sem,Nat.reduceAdd,Nat.reduceSub,Nat.reduceMul,Nat.reduceLT,Nat.reduceLeDiff,Nat.reduceEqDiff,Nat.reduceBEq,Nat.reduceBNe,List.reduceReplicate,reduceIte,reduceCtorEq,↓reduceIte];try trivial
  ·exact Nat.zero_le _
  intro j hj
  by_cases hjl:j < S.length
  ·have w2:IntKind.i64.wrap ((j:Int)+1)=((j+1:Nat):Int):=i64_in _ (by omega)
   have hft:=flat_take hjl
   have h4:=flat_len hSe j
   have h5:(S.getD j []).length≤1000:=hSe _ (by rw [List.getD_eq_getElem?_getD,List.getElem?_eq_getElem hjl];exact List.getElem_mem hjl)
   dsimp only [x96_1,x96_1d];simp only [↓hcsCat,entGrow0,hjl,w2,hft,go_sem,Nat.reduceAdd,Nat.reduceSub,Nat.reduceMul,Nat.reduceLT,Nat.reduceLeDiff,Nat.reduceEqDiff,Nat.reduceBEq,Nat.reduceBNe,List.reduceReplicate,reduceIte,reduceCtorEq,↓reduceIte]
   simp only [hjl,w2,hft,td,reduceCtorEq]
   refine ⟨?_,j+1,by omega,by omega,rfl,rfl⟩
   show ((S.take j).flatten.length+(S.getD j []).length) * 8≤140737488355328
   omega
  ·obtain rfl:j=S.length:=by omega
   dsimp only [x96_1,x96_1d];simp only [↓hcsCat,entGrow0,hjl,hfl,go_sem,Nat.reduceAdd,Nat.reduceSub,Nat.reduceMul,Nat.reduceLT,Nat.reduceLeDiff,Nat.reduceEqDiff,Nat.reduceBEq,Nat.reduceBNe,List.reduceReplicate,reduceIte,reduceCtorEq,↓reduceIte]
   try simp only [hjl,hfl,td,reduceCtorEq]
end T
end Go.Proofs.YtecdcopihghnaaaGreat
end
section
namespace Go.Proofs.YtecdcopihghnaaaGreat
set_option linter.unusedVariables false
set_option linter.unusedSimpArgs false
open Go.RowKit Go.IntWalk
namespace T
def cutF (c:DChain) (g:List Int) (low high:List Int) (k:Nat):Bool:=keepsF c (rnF c g (low.take k ++ high.drop k)).1
def entKp1:Ent:=⟨95,.cons (.int .i64) (.cons (.ptr (.st (.cons (.sl (.st (.cons (.int .i64) (.int .i64)))) (.cons (.sl (.st (.cons (.int .i64) (.int .i64)))) (.sl (.st (.cons (.int .i64) (.cons (.int .i64) (.int .i64))))))))) (.cons (.ptr (.sl (.int .i64))) (.cons (.ptr (.sl (.int .i64))) (.cons (.ptr (.sl (.int .i64))) .nil)))),.bool,false,none,
 fun x=>(0≤(x.1:Int)∧(x.1:Int)≤List.length (α:=Int) x.2.2.2.1)∧List.length (α:=Int) x.2.2.2.2.1=List.length (α:=Int) x.2.2.2.1∧List.length (α:=Int) x.2.2.2.1≤1000,fun x=>cutF x.2.1 x.2.2.1 x.2.2.2.1 x.2.2.2.2.1 (x.1:Int).toNat⟩
def csKp1:List Ent:=[entCat,entRun,entKeep] theorem hcsKp1 (f:FuncId):findEnt csKp1 f=findEnt [entCat,entRun,entKeep] f:=rfl
theorem conKp1:Con Tryz.prog entKp1:=by
 refine con_is (C:=csKp1) x95 (by kernel_rfl) (by simp [csKp1,conCat,conRun,conKeep]) fun x hx hf=>?_
 obtain ⟨(k:Int),⟨(W:List DWin),(L:List DLeg),(R:List DRide)⟩,(g:List Int),(lo:List Int),(hi:List Int),_⟩:=x
 obtain ⟨⟨h1,h2⟩,h3,h4⟩:=hx
 replace h1:0≤k:=h1
 replace h2:k≤(lo.length:Int):=h2
 replace h3:hi.length=lo.length:=h3
 replace h4:lo.length≤1000:=h4
 obtain ⟨k,rfl⟩:∃ z:Nat,k=z:=⟨k.toNat,by omega⟩
 have h5:(k:Int)≤(hi.length:Int):=by omega
 dsimp only [entKp1,x95];simp only [↓hcsKp1,entCat,entRun,entKeep,undef,h1,h2,h3,h5,Int.toNat_natCast,go_sem,Nat.reduceAdd,Nat.reduceSub,Nat.reduceMul,Nat.reduceLT,Nat.reduceLeDiff,Nat.reduceEqDiff,Nat.reduceBEq,Nat.reduceBNe,List.reduceReplicate,reduceIte,reduceCtorEq,↓reduceIte]
 try simp only [h1,h2,h3,h5,Int.toNat_natCast,td,reduceCtorEq]
 have e1:hi.take lo.length=hi:=List.take_of_length_le (by omega)
 rw [e1]
 refine ⟨⟨Int.le_refl _,Int.le_refl _,fun l hl=>?_⟩,?_⟩
 ·rcases hl with rfl | rfl
  ·rw [List.length_take];omega
  ·rw [List.length_drop];omega
 ·unfold cutF
  rw [show [lo.take k,hi.drop k].flatten=lo.take k ++ hi.drop k by simp]
def keeps20 (c:DChain) (g:List Int):Bool :=
 (cutF c g (lowsF c.2.1) (highsF c.2.1) 0 && cutF c g (lowsF c.2.1) (highsF c.2.1) c.2.1.length) && c.2.2.all fun r=>cutF c g (lowsF c.2.1) (highsF c.2.1) r.1.toNat
def entKps:Ent:=⟨40,.cons (.st (.cons (.sl (.st (.cons (.int .i64) (.int .i64)))) (.cons (.sl (.st (.cons (.int .i64) (.int .i64)))) (.sl (.st (.cons (.int .i64) (.cons (.int .i64) (.int .i64)))))))) (.cons (.sl (.int .i64)) .nil),.bool,false,none,fun x=>rightC x.1=true,fun x=>keeps20 x.1 x.2.1⟩
def csKps:List Ent:=[entLw20,entHg20,entKp1] theorem hcsKps (f:FuncId):findEnt csKps f=findEnt [entLw20,entHg20,entKp1] f:=rfl
theorem conKps:Con Tryz.prog entKps:=by
 refine con_is (C:=csKps) u40 (by kernel_rfl) (by simp [csKps,conLw20,conHg20,conKp1]) fun x hx hf=>?_
 obtain ⟨⟨(W:List DWin),(L:List DLeg),(R:List DRide)⟩,(g:List Int),_⟩:=x
 replace hx:rightC (W,L,R)=true:=hx
 have hlen:=(rightC_iff.1 hx).1
 dsimp only at hlen
 have hLl:L.length≤1000:=by omega
 have hlo:(lowsF L).length=L.length:=lows_len L
 have hhi:(highsF L).length=L.length:=highs_len L
 have hL0:(0:Int)≤(L.length:Int):=by omega
 cases c1:cutF (W,L,R) g (lowsF L) (highsF L) 0 with
 | false =>
  have hz:keeps20 (W,L,R) g=false:=by unfold keeps20;dsimp only;rw [c1];rfl
  dsimp only [entKps,u40,u92,u150,u98];simp only [↓hcsKps,entLw20,entHg20,entKp1,undef,hLl,hlo,hhi,hL0,c1,hz,Int.toNat_natCast,Int.toNat_zero,go_sem,Nat.reduceAdd,Nat.reduceSub,Nat.reduceMul,Nat.reduceLT,Nat.reduceLeDiff,Nat.reduceEqDiff,Nat.reduceBEq,Nat.reduceBNe,List.reduceReplicate,reduceIte,reduceCtorEq,↓reduceIte]
  try simp only [hLl,hlo,hhi,hL0,c1,hz,Int.toNat_natCast,Int.toNat_zero,td,reduceCtorEq]
  exact Int.le_refl _
 | true =>
  cases c2:cutF (W,L,R) g (lowsF L) (highsF L) L.length with
  | false =>
   have hz:keeps20 (W,L,R) g=false:=by unfold keeps20;dsimp only;rw [c1,c2];rfl
   dsimp only [entKps,u40,u92,u150,u98];simp only [↓hcsKps,entLw20,entHg20,entKp1,undef,hLl,hlo,hhi,hL0,c1,c2,hz,Int.toNat_natCast,Int.toNat_zero,go_sem,Nat.reduceAdd,Nat.reduceSub,Nat.reduceMul,Nat.reduceLT,Nat.reduceLeDiff,Nat.reduceEqDiff,Nat.reduceBEq,Nat.reduceBNe,List.reduceReplicate,reduceIte,reduceCtorEq,↓reduceIte]
   try simp only [hLl,hlo,hhi,hL0,c1,c2,hz,Int.toNat_natCast,Int.toNat_zero,td,reduceCtorEq]
   exact ⟨Int.le_refl _,Int.le_refl _⟩
  | true =>
   have hz:keeps20 (W,L,R) g=R.all fun r=>cutF (W,L,R) g (lowsF L) (highsF L) r.1.toNat:=by unfold keeps20;dsimp only;rw [c1,c2];rfl
   dsimp only [entKps,u40,u92,u150,u98];simp only [↓hcsKps,entLw20,entHg20,entKp1,undef,hLl,hlo,hhi,hL0,c1,c2,Int.toNat_natCast,Int.toNat_zero,go_sem,Nat.reduceAdd,Nat.reduceSub,Nat.reduceMul,Nat.reduceLT,Nat.reduceLeDiff,Nat.reduceEqDiff,Nat.reduceBEq,Nat.reduceBNe,List.reduceReplicate,reduceIte,reduceCtorEq,↓reduceIte]
   try simp only [hLl,hlo,hhi,hL0,c1,c2,Int.toNat_natCast,Int.toNat_zero,td,reduceCtorEq]
   refine ⟨⟨Int.le_refl _,Int.le_refl _⟩,?_⟩
   refine XW_for 1000 u150_0d [0,1,9,10,14] Nat (fun i=>[(8,.val (.int .i64) (i:Int))]) (fun _=>[]) (fun i=>i≤R.length∧∀ k,k < i→cutF (W,L,R) g (lowsF L) (highsF L) (R.getD k (0,0,0)).1.toNat=true) (fun i=>R.length - i) 0 ?_ ?_ ?_
   ·dsimp only [u150_0d];simp only [go_sem,Nat.reduceAdd,Nat.reduceSub,Nat.reduceMul,Nat.reduceLT,Nat.reduceLeDiff,Nat.reduceEqDiff,Nat.reduceBEq,Nat.reduceBNe,List.reduceReplicate,reduceIte,reduceCtorEq,↓reduceIte];try trivial
   ·exact ⟨Nat.zero_le _,fun k hk=>absurd hk (Nat.not_lt_zero _)⟩
   rintro i ⟨hi,hm⟩
   by_cases hil:i < R.length
   ·have w2:IntKind.i64.wrap ((i:Int)+1)=((i+1:Nat):Int):=i64_in _ (by omega)
    have hrd:=right_ride hx (k:=i) hil
    have hall:cutF (W,L,R) g (lowsF L) (highsF L) (R.getD i (0,0,0)).1.toNat=false→keeps20 (W,L,R) g=false:=fun h=>by
     rw [hz,List.all_eq_false]
     exact ⟨_,getD_mem2 (d:=(0,0,0)) hil,by rw [h];simp⟩
    dsimp only at hrd
    generalize hrr:R.getD i (0,0,0)=rr at hrd hall
    obtain ⟨r1,r2,r3⟩:=rr
    dsimp only at hrd hall
    have hr1:0≤r1:=hrd.1
    have hr2:r1≤(L.length:Int):=by omega
    cases c3:cutF (W,L,R) g (lowsF L) (highsF L) r1.toNat with
    | false =>
     replace hall:=hall c3
     dsimp only [u150_0,u150_0d,u40,u92,u150,u98];simp only [↓hcsKps,entLw20,entHg20,entKp1,undef,hil,w2,hrr,hLl,hlo,hhi,hr1,hr2,c3,hall,go_sem,Nat.reduceAdd,Nat.reduceSub,Nat.reduceMul,Nat.reduceLT,Nat.reduceLeDiff,Nat.reduceEqDiff,Nat.reduceBEq,Nat.reduceBNe,List.reduceReplicate,reduceIte,reduceCtorEq,↓reduceIte]
     try simp only [hil,w2,hrr,hLl,hlo,hhi,hr1,hr2,c3,hall,td,reduceCtorEq]
    | true =>
     dsimp only [u150_0,u150_0d,u40,u92,u150,u98];simp only [↓hcsKps,entLw20,entHg20,entKp1,undef,hil,w2,hrr,hLl,hlo,hhi,hr1,hr2,c3,go_sem,Nat.reduceAdd,Nat.reduceSub,Nat.reduceMul,Nat.reduceLT,Nat.reduceLeDiff,Nat.reduceEqDiff,Nat.reduceBEq,Nat.reduceBNe,List.reduceReplicate,reduceIte,reduceCtorEq,↓reduceIte]
     try simp only [hil,w2,hrr,hLl,hlo,hhi,hr1,hr2,c3,td,reduceCtorEq]
     refine ⟨i+1,by omega,⟨by omega,fun k hk=>?_⟩,rfl⟩
     rcases Nat.lt_or_ge k i with q | q
     ·exact hm k q
     ·rw [show k=i by omega,hrr];exact c3
   ·obtain rfl:i=R.length:=by omega
    have hz2:keeps20 (W,L,R) g=true:=by
     rw [hz,List.all_eq_true]
     intro r hrm
     obtain ⟨k,hk,rfl⟩:=List.getElem_of_mem hrm
     have h1:=hm k hk
     have:R.getD k (0,0,0)=R[k]:=by simp [List.getD,hk]
     rw [this] at h1
     exact h1
    dsimp only [u150_0,u150_0d,u40,u92,u150,u98];simp only [↓hcsKps,entLw20,entHg20,entKp1,undef,hil,hz2,go_sem,Nat.reduceAdd,Nat.reduceSub,Nat.reduceMul,Nat.reduceLT,Nat.reduceLeDiff,Nat.reduceEqDiff,Nat.reduceBEq,Nat.reduceBNe,List.reduceReplicate,reduceIte,reduceCtorEq,↓reduceIte]
    try simp only [hil,hz2,td,reduceCtorEq]
    decide
end T
end Go.Proofs.YtecdcopihghnaaaGreat
end
section
namespace Go.Proofs.YtecdcopihghnaaaGreat
set_option linter.unusedVariables false
set_option linter.unusedSimpArgs false
open Go.RowKit Go.IntWalk
namespace T
def entIdxFuncCar:Ent:=⟨126,.cons (.sl (.st (.cons (.int .i64) (.cons (.int .i64) (.cons (.int .i64) (.cons (.int .i64) (.cons (.int .i64) (.cons (.int .i64) (.cons (.int .i64) (.cons (.int .i64) (.int .i64))))))))))) (.cons (.fn (.st (.cons (.int .i64) (.cons (.int .i64) (.cons (.int .i64) (.cons (.int .i64) (.cons (.int .i64) (.cons (.int .i64) (.cons (.int .i64) (.cons (.int .i64) (.int .i64)))))))))) .bool) .nil),(.int .i64),false,none,fun _=>True,fun x=>idxF x.2.1 x.1⟩
theorem conIdxFuncCar:Con Tryz.prog entIdxFuncCar:=by
 refine con_is (C:=[]) x126 (by kernel_rfl) (by simp) fun x _ hf=>?_
 obtain ⟨(xs:List DCar),(p:DCar→Bool),_⟩:=x
 have hl:xs.length≤maxLen:=hf.1.1
 dsimp only [entIdxFuncCar,x126];simp only [go_sem,Nat.reduceAdd,Nat.reduceSub,Nat.reduceMul,Nat.reduceLT,Nat.reduceLeDiff,Nat.reduceEqDiff,Nat.reduceBEq,Nat.reduceBNe,List.reduceReplicate,reduceIte,reduceCtorEq,↓reduceIte]
 refine XW_for 1000 x126_0d [] Nat (fun k=>[(8,.val (.int .i64) (k:Int))]) (fun _=>[]) (fun k=>k≤xs.length∧∀ j,j < k→p (xs.getD j (0,0,0,0,0,0,0,0,0))=false) (fun k=>xs.length - k) 0 ?_ ?_ ?_
 ·dsimp only [x126_0d];simp only [go_sem,Nat.reduceAdd,Nat.reduceSub,Nat.reduceMul,Nat.reduceLT,Nat.reduceLeDiff,Nat.reduceEqDiff,Nat.reduceBEq,Nat.reduceBNe,List.reduceReplicate,reduceIte,reduceCtorEq,↓reduceIte]
  rfl
 ·exact ⟨by omega,fun j hj=>by omega⟩
 ·intro k hk
  dsimp only [x126_0,x126_0d];simp only [go_sem,Nat.reduceAdd,Nat.reduceSub,Nat.reduceMul,Nat.reduceLT,Nat.reduceLeDiff,Nat.reduceEqDiff,Nat.reduceBEq,Nat.reduceBNe,List.reduceReplicate,reduceIte,reduceCtorEq,↓reduceIte]
  dsimp only [maxLen] at hl
  by_cases hkl:k < xs.length
  ·simp only [hkl,td,reduceCtorEq]
   refine ⟨fun h=>(idxF_at hkl hk.2 h).symm,fun h=>⟨k+1,by omega,⟨by omega,fun j hj=>?_⟩,i64_in _ (by omega)⟩⟩
   rcases Nat.lt_succ_iff_lt_or_eq.1 hj with h' | rfl
   ·exact hk.2 j h'
   ·exact h
  ·simp only [hkl,td,reduceCtorEq]
   exact (idxF_none fun j hj=>hk.2 j (by omega)).symm
def entConFuncCar:Ent:=⟨67,.cons (.sl (.st (.cons (.int .i64) (.cons (.int .i64) (.cons (.int .i64) (.cons (.int .i64) (.cons (.int .i64) (.cons (.int .i64) (.cons (.int .i64) (.cons (.int .i64) (.int .i64))))))))))) (.cons (.fn (.st (.cons (.int .i64) (.cons (.int .i64) (.cons (.int .i64) (.cons (.int .i64) (.cons (.int .i64) (.cons (.int .i64) (.cons (.int .i64) (.cons (.int .i64) (.int .i64)))))))))) .bool) .nil),.bool,false,none,fun _=>True,fun x=>x.1.any x.2.1⟩
theorem conConFuncCar:Con Tryz.prog entConFuncCar:=by
 refine con_is (C:=[entIdxFuncCar]) x67 (by kernel_rfl) (by simp [conIdxFuncCar]) fun x _ hf=>?_
 obtain ⟨(xs:List DCar),(p:DCar→Bool),_⟩:=x
 dsimp only [entConFuncCar,entIdxFuncCar,x67];simp only [go_sem,Nat.reduceAdd,Nat.reduceSub,Nat.reduceMul,Nat.reduceLT,Nat.reduceLeDiff,Nat.reduceEqDiff,Nat.reduceBEq,Nat.reduceBNe,List.reduceReplicate,reduceIte,reduceCtorEq,↓reduceIte]
 refine eq_of_iff ?_
 rw [← idxF_any]
 simp
def entIdxFuncReq:Ent:=⟨127,.cons (.sl (.st (.cons (.int .i64) (.cons (.int .i64) (.cons (.int .i64) (.cons (.int .i64) (.cons (.int .i64) (.cons (.int .i64) (.cons (.int .i64) (.cons (.int .i64) (.cons (.int .i64) (.int .i64)))))))))))) (.cons (.fn (.st (.cons (.int .i64) (.cons (.int .i64) (.cons (.int .i64) (.cons (.int .i64) (.cons (.int .i64) (.cons (.int .i64) (.cons (.int .i64) (.cons (.int .i64) (.cons (.int .i64) (.int .i64))))))))))) .bool) .nil),(.int .i64),false,none,fun _=>True,fun x=>idxF x.2.1 x.1⟩
theorem conIdxFuncReq:Con Tryz.prog entIdxFuncReq:=by
 refine con_is (C:=[]) x127 (by kernel_rfl) (by simp) fun x _ hf=>?_
 obtain ⟨(xs:List DReq),(p:DReq→Bool),_⟩:=x
 have hl:xs.length≤maxLen:=hf.1.1
 dsimp only [entIdxFuncReq,x127];simp only [go_sem,Nat.reduceAdd,Nat.reduceSub,Nat.reduceMul,Nat.reduceLT,Nat.reduceLeDiff,Nat.reduceEqDiff,Nat.reduceBEq,Nat.reduceBNe,List.reduceReplicate,reduceIte,reduceCtorEq,↓reduceIte]
 refine XW_for 1000 x127_0d [] Nat (fun k=>[(8,.val (.int .i64) (k:Int))]) (fun _=>[]) (fun k=>k≤xs.length∧∀ j,j < k→p (xs.getD j dReq)=false) (fun k=>xs.length - k) 0 ?_ ?_ ?_
 ·dsimp only [x127_0d];simp only [go_sem,Nat.reduceAdd,Nat.reduceSub,Nat.reduceMul,Nat.reduceLT,Nat.reduceLeDiff,Nat.reduceEqDiff,Nat.reduceBEq,Nat.reduceBNe,List.reduceReplicate,reduceIte,reduceCtorEq,↓reduceIte]
  rfl
 ·exact ⟨by omega,fun j hj=>by omega⟩
 ·intro k hk
  dsimp only [x127_0,x127_0d];simp only [go_sem,Nat.reduceAdd,Nat.reduceSub,Nat.reduceMul,Nat.reduceLT,Nat.reduceLeDiff,Nat.reduceEqDiff,Nat.reduceBEq,Nat.reduceBNe,List.reduceReplicate,reduceIte,reduceCtorEq,↓reduceIte]
  dsimp only [maxLen] at hl
  by_cases hkl:k < xs.length
  ·simp only [hkl,td,reduceCtorEq]
   refine ⟨fun h=>(idxF_at hkl hk.2 h).symm,fun h=>⟨k+1,by omega,⟨by omega,fun j hj=>?_⟩,i64_in _ (by omega)⟩⟩
   rcases Nat.lt_succ_iff_lt_or_eq.1 hj with h' | rfl
   ·exact hk.2 j h'
   ·exact h
  ·simp only [hkl,td,reduceCtorEq]
   exact (idxF_none fun j hj=>hk.2 j (by omega)).symm
def entConFuncReq:Ent:=⟨68,.cons (.sl (.st (.cons (.int .i64) (.cons (.int .i64) (.cons (.int .i64) (.cons (.int .i64) (.cons (.int .i64) (.cons (.int .i64) (.cons (.int .i64) (.cons (.int .i64) (.cons (.int .i64) (.int .i64)))))))))))) (.cons (.fn (.st (.cons (.int .i64) (.cons (.int .i64) (.cons (.int .i64) (.cons (.int .i64) (.cons (.int .i64) (.cons (.int .i64) (.cons (.int .i64) (.cons (.int .i64) (.cons (.int .i64) (.int .i64))))))))))) .bool) .nil),.bool,false,none,fun _=>True,fun x=>x.1.any x.2.1⟩
theorem conConFuncReq:Con Tryz.prog entConFuncReq:=by
 refine con_is (C:=[entIdxFuncReq]) x68 (by kernel_rfl) (by simp [conIdxFuncReq]) fun x _ hf=>?_
 obtain ⟨(xs:List DReq),(p:DReq→Bool),_⟩:=x
 dsimp only [entConFuncReq,entIdxFuncReq,x68];simp only [go_sem,Nat.reduceAdd,Nat.reduceSub,Nat.reduceMul,Nat.reduceLT,Nat.reduceLeDiff,Nat.reduceEqDiff,Nat.reduceBEq,Nat.reduceBNe,List.reduceReplicate,reduceIte,reduceCtorEq,↓reduceIte]
 refine eq_of_iff ?_
 rw [← idxF_any]
 simp
def entIdxFuncPr:Ent:=⟨128,.cons (.sl (.st (.cons (.int .i64) (.cons (.int .i64) .bool)))) (.cons (.fn (.st (.cons (.int .i64) (.cons (.int .i64) .bool))) .bool) .nil),(.int .i64),false,none,fun _=>True,fun x=>idxF x.2.1 x.1⟩
theorem conIdxFuncPr:Con Tryz.prog entIdxFuncPr:=by
 refine con_is (C:=[]) x128 (by kernel_rfl) (by simp) fun x _ hf=>?_
 obtain ⟨(xs:List DPair),(p:DPair→Bool),_⟩:=x
 have hl:xs.length≤maxLen:=hf.1.1
 dsimp only [entIdxFuncPr,x128];simp only [go_sem,Nat.reduceAdd,Nat.reduceSub,Nat.reduceMul,Nat.reduceLT,Nat.reduceLeDiff,Nat.reduceEqDiff,Nat.reduceBEq,Nat.reduceBNe,List.reduceReplicate,reduceIte,reduceCtorEq,↓reduceIte]
 refine XW_for 1000 x128_0d [] Nat (fun k=>[(8,.val (.int .i64) (k:Int))]) (fun _=>[]) (fun k=>k≤xs.length∧∀ j,j < k→p (xs.getD j (0,0,false))=false) (fun k=>xs.length - k) 0 ?_ ?_ ?_
 ·dsimp only [x128_0d];simp only [go_sem,Nat.reduceAdd,Nat.reduceSub,Nat.reduceMul,Nat.reduceLT,Nat.reduceLeDiff,Nat.reduceEqDiff,Nat.reduceBEq,Nat.reduceBNe,List.reduceReplicate,reduceIte,reduceCtorEq,↓reduceIte]
  rfl
 ·exact ⟨by omega,fun j hj=>by omega⟩
 ·intro k hk
  dsimp only [x128_0,x128_0d];simp only [go_sem,Nat.reduceAdd,Nat.reduceSub,Nat.reduceMul,Nat.reduceLT,Nat.reduceLeDiff,Nat.reduceEqDiff,Nat.reduceBEq,Nat.reduceBNe,List.reduceReplicate,reduceIte,reduceCtorEq,↓reduceIte]
  dsimp only [maxLen] at hl
  by_cases hkl:k < xs.length
  ·simp only [hkl,td,reduceCtorEq]
   refine ⟨fun h=>(idxF_at hkl hk.2 h).symm,fun h=>⟨k+1,by omega,⟨by omega,fun j hj=>?_⟩,i64_in _ (by omega)⟩⟩
   rcases Nat.lt_succ_iff_lt_or_eq.1 hj with h' | rfl
   ·exact hk.2 j h'
   ·exact h
  ·simp only [hkl,td,reduceCtorEq]
   exact (idxF_none fun j hj=>hk.2 j (by omega)).symm
def entConFuncPr:Ent:=⟨69,.cons (.sl (.st (.cons (.int .i64) (.cons (.int .i64) .bool)))) (.cons (.fn (.st (.cons (.int .i64) (.cons (.int .i64) .bool))) .bool) .nil),.bool,false,none,fun _=>True,fun x=>x.1.any x.2.1⟩
theorem conConFuncPr:Con Tryz.prog entConFuncPr:=by
 refine con_is (C:=[entIdxFuncPr]) x69 (by kernel_rfl) (by simp [conIdxFuncPr]) fun x _ hf=>?_
 obtain ⟨(xs:List DPair),(p:DPair→Bool),_⟩:=x
 dsimp only [entConFuncPr,entIdxFuncPr,x69];simp only [go_sem,Nat.reduceAdd,Nat.reduceSub,Nat.reduceMul,Nat.reduceLT,Nat.reduceLeDiff,Nat.reduceEqDiff,Nat.reduceBEq,Nat.reduceBNe,List.reduceReplicate,reduceIte,reduceCtorEq,↓reduceIte]
 refine eq_of_iff ?_
 rw [← idxF_any]
 simp
def entPin1:Ent:=⟨86,.cons (.int .i64) (.cons (.ptr (.int .i64)) .nil),.bool,false,none,fun _=>True,fun x=>!decide (0≤(x.1:Int)∧(x.1:Int)≤(x.2.1:Int))⟩
def csPi1:List Ent:=[] theorem hcsPi1 (f:FuncId):findEnt csPi1 f=findEnt [] f:=rfl
theorem conPin1:Con Tryz.prog entPin1:=by
 refine con_is (C:=csPi1) x86 (by kernel_rfl) (by simp [csPi1]) fun x hx hf=>?_
 obtain ⟨(n:Int),(m:Int),_⟩:=x
 dsimp only [entPin1,x86];simp only [↓hcsPi1,go_sem,Nat.reduceAdd,Nat.reduceSub,Nat.reduceMul,Nat.reduceLT,Nat.reduceLeDiff,Nat.reduceEqDiff,Nat.reduceBEq,Nat.reduceBNe,List.reduceReplicate,reduceIte,reduceCtorEq,↓reduceIte];try simp only [td,reduceCtorEq]
 rw [Bool.eq_iff_iff]
 simp
 try omega
def entPin:Ent:=⟨38,.cons (.int .i64) (.cons (.sl (.int .i64)) .nil),.bool,false,none,fun _=>True,fun x=>allIn x.1 x.2.1⟩
def csPin:List Ent:=[entPin1,entConFuncI] theorem hcsPin (f:FuncId):findEnt csPin f=findEnt [entPin1,entConFuncI] f:=rfl
theorem conPin:Con Tryz.prog entPin:=by
 refine con_is (C:=csPin) x38 (by kernel_rfl) (by simp [csPin,conPin1,conConFuncI]) fun x hx hf=>?_
 obtain ⟨(m:Int),(l:List Int),_⟩:=x
 dsimp only [entPin,x38];simp only [↓hcsPin,entPin1,entConFuncI,go_sem,Nat.reduceAdd,Nat.reduceSub,Nat.reduceMul,Nat.reduceLT,Nat.reduceLeDiff,Nat.reduceEqDiff,Nat.reduceBEq,Nat.reduceBNe,List.reduceReplicate,reduceIte,reduceCtorEq,↓reduceIte];try simp only [td,reduceCtorEq]
 unfold allIn
 rw [not_any]
def entPr1:Ent:=⟨64,.cons (.st (.cons (.int .i64) (.cons (.int .i64) (.cons (.int .i64) (.cons (.int .i64) (.cons (.int .i64) (.cons (.int .i64) (.cons (.int .i64) (.cons (.int .i64) (.int .i64)))))))))) (.cons (.ptr (.st (.cons (.int .i64) (.cons (.sl (.st (.cons (.int .i64) (.cons (.int .i64) (.cons (.sl (.int .i64)) (.sl (.int .i64))))))) (.cons (.sl (.st (.cons (.int .i64) (.cons (.int .i64) (.cons (.int .i64) (.cons (.int .i64) (.cons (.int .i64) (.cons (.int .i64) (.cons (.int .i64) (.cons (.int .i64) (.int .i64))))))))))) (.cons (.sl (.st (.cons (.int .i64) (.cons (.int .i64) (.cons (.int .i64) (.cons (.int .i64) (.cons (.int .i64) (.cons (.int .i64) (.cons (.int .i64) (.cons (.int .i64) (.cons (.int .i64) (.int .i64)))))))))))) (.cons (.sl (.st (.cons (.int .i64) (.cons (.int .i64) .bool)))) (.st (.cons (.int .i64) (.cons (.int .i64) (.int .i64))))))))))) .nil),.bool,false,none,fun _=>True,fun x=>!carB (IntKind.i64.wrap ((x.2.1:DWorld).1 - 1)) x.1⟩
def csPr1:List Ent:=[entPin] theorem hcsPr1 (f:FuncId):findEnt csPr1 f=findEnt [entPin] f:=rfl
set_option maxHeartbeats 4000000 in
theorem conPr1:Con Tryz.prog entPr1:=by
 refine con_is (C:=csPr1) x64 (by kernel_rfl) (by simp [csPr1,conPin]) fun x hx hf=>?_
 obtain ⟨⟨(o:Int),(n:Int),(r:Int),(e:Int),(s:Int),(c:Int),(b:Int),(g:Int),(f:Int)⟩,⟨(N:Int),(A:List DArc),(C:List DCar),(Q:List DReq),(P:List DPair),(S:DShift)⟩,_⟩:=x
 cases h1:allIn (IntKind.i64.wrap (N - 1)) [n] <;> cases h2:allIn 1048576 [r,e] <;> by_cases h3:r > e <;>
 ·have h3':=h3
  rw [gt_iff_lt] at h3'
  dsimp only [entPr1,x64]
  simp only [↓hcsPr1,entPin,undef,h1,h2,h3,h3',go_sem,Nat.reduceAdd,Nat.reduceSub,Nat.reduceMul,Nat.reduceLT,Nat.reduceLeDiff,Nat.reduceEqDiff,Nat.reduceBEq,Nat.reduceBNe,List.reduceReplicate,reduceIte,reduceCtorEq,↓reduceIte]
  try simp only [h1,h2,h3,td,reduceCtorEq]
  unfold carB
  simp [h1,h2,h3]
  try omega
def entPr2:Ent:=⟨65,.cons (.st (.cons (.int .i64) (.cons (.int .i64) (.cons (.int .i64) (.cons (.int .i64) (.cons (.int .i64) (.cons (.int .i64) (.cons (.int .i64) (.cons (.int .i64) (.cons (.int .i64) (.int .i64))))))))))) (.cons (.ptr (.st (.cons (.int .i64) (.cons (.sl (.st (.cons (.int .i64) (.cons (.int .i64) (.cons (.sl (.int .i64)) (.sl (.int .i64))))))) (.cons (.sl (.st (.cons (.int .i64) (.cons (.int .i64) (.cons (.int .i64) (.cons (.int .i64) (.cons (.int .i64) (.cons (.int .i64) (.cons (.int .i64) (.cons (.int .i64) (.int .i64))))))))))) (.cons (.sl (.st (.cons (.int .i64) (.cons (.int .i64) (.cons (.int .i64) (.cons (.int .i64) (.cons (.int .i64) (.cons (.int .i64) (.cons (.int .i64) (.cons (.int .i64) (.cons (.int .i64) (.int .i64)))))))))))) (.cons (.sl (.st (.cons (.int .i64) (.cons (.int .i64) .bool)))) (.st (.cons (.int .i64) (.cons (.int .i64) (.int .i64))))))))))) .nil),.bool,false,none,fun _=>True,fun x=>!reqB (IntKind.i64.wrap ((x.2.1:DWorld).1 - 1)) x.1⟩
def csPr2:List Ent:=[entPin] theorem hcsPr2 (f:FuncId):findEnt csPr2 f=findEnt [entPin] f:=rfl
set_option maxHeartbeats 4000000 in
theorem conPr2:Con Tryz.prog entPr2:=by
 refine con_is (C:=csPr2) x65 (by kernel_rfl) (by simp [csPr2,conPin]) fun x hx hf=>?_
 obtain ⟨⟨(m:Int),(f:Int),(t:Int),(e:Int),(l:Int),(d:Int),(r:Int),(s:Int),(c:Int),(b:Int)⟩,⟨(N:Int),(A:List DArc),(C:List DCar),(Q:List DReq),(P:List DPair),(S:DShift)⟩,_⟩:=x
 cases h1:allIn 1048576 [e,l,d,r] <;> by_cases h2:e≤l <;> cases h3:allIn 3999 [m] <;> cases h4:allIn (IntKind.i64.wrap (N - 1)) [f,t] <;>
 ·dsimp only [entPr2,x65]
  simp only [↓hcsPr2,entPin,undef,h1,h2,h3,h4,go_sem,Nat.reduceAdd,Nat.reduceSub,Nat.reduceMul,Nat.reduceLT,Nat.reduceLeDiff,Nat.reduceEqDiff,Nat.reduceBEq,Nat.reduceBNe,List.reduceReplicate,reduceIte,reduceCtorEq,↓reduceIte]
  try simp only [h1,h2,h3,h4,td,reduceCtorEq]
  unfold reqB
  simp [h1,h2,h3,h4]
def entPr3:Ent:=⟨66,.cons (.st (.cons (.int .i64) (.cons (.int .i64) .bool))) .nil,.bool,false,none,fun _=>True,fun x=>!prB x.1⟩
def csPr3:List Ent:=[entPin] theorem hcsPr3 (f:FuncId):findEnt csPr3 f=findEnt [entPin] f:=rfl
theorem conPr3:Con Tryz.prog entPr3:=by
 refine con_is (C:=csPr3) x66 (by kernel_rfl) (by simp [csPr3,conPin]) fun x hx hf=>?_
 obtain ⟨⟨(a:Int),(b:Int),(m:Bool)⟩,_⟩:=x
 dsimp only [entPr3,x66];simp only [↓hcsPr3,entPin,go_sem,Nat.reduceAdd,Nat.reduceSub,Nat.reduceMul,Nat.reduceLT,Nat.reduceLeDiff,Nat.reduceEqDiff,Nat.reduceBEq,Nat.reduceBNe,List.reduceReplicate,reduceIte,reduceCtorEq,↓reduceIte];try simp only [td,reduceCtorEq]
 rfl
def entPlR:Ent:=⟨30,.cons (.st (.cons (.int .i64) (.cons (.sl (.st (.cons (.int .i64) (.cons (.int .i64) (.cons (.sl (.int .i64)) (.sl (.int .i64))))))) (.cons (.sl (.st (.cons (.int .i64) (.cons (.int .i64) (.cons (.int .i64) (.cons (.int .i64) (.cons (.int .i64) (.cons (.int .i64) (.cons (.int .i64) (.cons (.int .i64) (.int .i64))))))))))) (.cons (.sl (.st (.cons (.int .i64) (.cons (.int .i64) (.cons (.int .i64) (.cons (.int .i64) (.cons (.int .i64) (.cons (.int .i64) (.cons (.int .i64) (.cons (.int .i64) (.cons (.int .i64) (.int .i64)))))))))))) (.cons (.sl (.st (.cons (.int .i64) (.cons (.int .i64) .bool)))) (.st (.cons (.int .i64) (.cons (.int .i64) (.int .i64)))))))))) .nil,.bool,false,none,fun _=>True,fun x=>rightP x.1⟩
def csPlR:List Ent:=[entRoad,entConFuncCar,entConFuncReq,entConFuncPr,entPr1,entPr2,entPr3,entWkR] theorem hcsPlR (f:FuncId):findEnt csPlR f=findEnt [entRoad,entConFuncCar,entConFuncReq,entConFuncPr,entPr1,entPr2,entPr3,entWkR] f:=rfl
theorem conPlR:Con Tryz.prog entPlR:=by
 refine con_is (C:=csPlR) x30 (by kernel_rfl) (by simp [csPlR,conRoad,conConFuncCar,conConFuncReq,conConFuncPr,conPr1,conPr2,conPr3,conWkR]) fun x hx hf=>?_
 obtain ⟨⟨(N:Int),(A:List DArc),(C:List DCar),(Q:List DReq),(P:List DPair),(S:DShift)⟩,_⟩:=x
 dsimp only [entPlR,x30];simp only [↓hcsPlR,entRoad,entConFuncCar,entConFuncReq,entConFuncPr,entPr1,entPr2,entPr3,entWkR,go_sem,Nat.reduceAdd,Nat.reduceSub,Nat.reduceMul,Nat.reduceLT,Nat.reduceLeDiff,Nat.reduceEqDiff,Nat.reduceBEq,Nat.reduceBNe,List.reduceReplicate,reduceIte,reduceCtorEq,↓reduceIte];try simp only [td,reduceCtorEq]
 obtain ⟨S1,S2,S3⟩:=S
 refine ⟨fun h=>?_,?_⟩
 ·symm
  rw [← Bool.not_eq_true]
  intro q
  obtain ⟨q1,q2,_⟩:=rightP_iff.1 q
  dsimp only at q1 q2
  rcases h with ((h | h) | h) | h
  ·rw [h] at q1;cases q1
  ·omega
  ·omega
  ·omega
 ·rintro ⟨⟨⟨h1,h2⟩,h3⟩,h4⟩
  have hn:=rightR_n h1
  rw [i64_in (N - 1) (by omega),not_any,not_any,not_any]
  unfold rightP
  dsimp only
  rw [h1,decide_eq_true (by omega),Bool.true_and,Bool.true_and,Bool.and_assoc,Bool.and_assoc]
end T
end Go.Proofs.YtecdcopihghnaaaGreat
end
section
namespace Go.Proofs.YtecdcopihghnaaaGreat
set_option linter.unusedVariables false
set_option linter.unusedSimpArgs false
open Go.RowKit Go.IntWalk
def revTo (zs:List Int):Nat→List Int
 | 0=>zs
 | k+1=>((revTo zs k).set k ((revTo zs k).getD (zs.length - 1 - k) 0)).set (zs.length - 1 - k) ((revTo zs k).getD k 0)
theorem revTo_length (zs:List Int):∀ k,(revTo zs k).length=zs.length
 | 0=>rfl
 | k+1=>by rw [revTo,List.length_set,List.length_set,revTo_length zs k]
theorem revTo_get (zs:List Int):∀ k,2 * k≤zs.length→∀ p,p < zs.length→(revTo zs k).getD p 0=if p < k∨zs.length - 1 - p < k then zs.getD (zs.length - 1 - p) 0 else zs.getD p 0
 | 0,_,p,_=>by rw [if_neg (by omega)];rfl
 | k+1,hk,p,hp=>by
  have ih:=revTo_get zs k (by omega)
  have hl:=revTo_length zs k
  rw [revTo,List.getD_eq_getElem?_getD,List.getElem?_set]
  by_cases c:zs.length - 1 - k=p
  ·rw [if_pos c,if_pos (by rw [List.length_set];omega),Option.getD_some,ih k (by omega),if_neg (by omega),if_pos (by omega),show zs.length - 1 - p=k by omega]
  ·rw [if_neg c,List.getElem?_set]
   by_cases d:k=p
   ·rw [if_pos d,if_pos (by omega),Option.getD_some,ih _ (by omega),if_neg (by omega),if_pos (by omega),d]
   ·rw [if_neg d,← List.getD_eq_getElem?_getD,ih p hp]
    by_cases e:p < k∨zs.length - 1 - p < k
    ·rw [if_pos e,if_pos (by omega)]
    ·rw [if_neg e,if_neg (by omega)]
theorem revTo_end (zs:List Int) {k:Nat} (hk:2 * k≤zs.length) (h:zs.length≤2 * k+1):revTo zs k=zs.reverse:=by
 apply List.ext_getElem
 ·rw [revTo_length,List.length_reverse]
 ·intro p h1 h2
  rw [revTo_length] at h1
  have h3:=revTo_get zs k hk p h1
  rw [List.getD_eq_getElem?_getD,List.getElem?_eq_getElem (by rw [revTo_length];exact h1),Option.getD_some] at h3
  rw [h3,List.getElem_reverse]
  split
  ·rw [List.getD_eq_getElem?_getD,List.getElem?_eq_getElem (by omega),Option.getD_some]
  ·have e:zs.length - 1 - p=p:=by omega
   simp only [e]
   rw [List.getD_eq_getElem?_getD,List.getElem?_eq_getElem h1,Option.getD_some]
namespace T
def entWay:Ent:=⟨34,.cons (.sl (.st (.cons (.int .i64) (.int .i64)))) (.cons (.sl (.st (.cons (.int .i64) (.cons (.int .i64) (.cons (.sl (.int .i64)) (.sl (.int .i64))))))) (.cons (.int .i64) .nil)),(.sl (.int .i64)),false,none,fun x=>List.length (α:=DLab) x.1≤100000,fun x=>wayF x.1 x.2.1 x.2.2.1⟩
def csWy:List Ent:=[] theorem hcsWy (f:FuncId):findEnt csWy f=findEnt [] f:=rfl
theorem conWay:Con Tryz.prog entWay:=by
 refine con_is (C:=csWy) x34 (by kernel_rfl) (by simp [csWy]) fun x hx hf=>?_
 obtain ⟨(L:List DLab),(A:List DArc),(to:Int),_⟩:=x
 dsimp only [entWay,x34];simp only [↓hcsWy,go_sem,Nat.reduceAdd,Nat.reduceSub,Nat.reduceMul,Nat.reduceLT,Nat.reduceLeDiff,Nat.reduceEqDiff,Nat.reduceBEq,Nat.reduceBNe,List.reduceReplicate,reduceIte,reduceCtorEq,↓reduceIte]
 simp only [td,reduceCtorEq];try dsimp only [Ty.den]
 have hLl:L.length≤100000:=hx
 refine ⟨fun h=>?_,fun h=>?_⟩
 ·unfold wayF;rw [if_pos (or_assoc.1 h)]
 have e0:wayF L A to=wayGo L A L.length to []:=if_neg (by rintro (h2 | h2 | h2) <;> omega)
 rw [e0]
 refine XW_for 1000 x34_0d [17] (List Int × Int) (fun s=>[(7,.own 17),(2,.val (.int .i64) s.2)]) (fun s=>[(17,.row 3 (.int .i64) s.1)])
  (fun s=>(0≤s.2∧s.2 < L.length)∧s.1.length≤L.length∧wayGo L A (L.length - s.1.length) s.2 s.1.reverse=wayGo L A L.length to []) (fun s=>L.length - s.1.length) ([],to) ?_ ?_ ?_
 ·dsimp only [x34_0d]
  simp only [go_sem,Nat.reduceAdd,Nat.reduceSub,Nat.reduceMul,Nat.reduceLT,Nat.reduceLeDiff,Nat.reduceEqDiff,Nat.reduceBEq,Nat.reduceBNe,List.reduceReplicate,reduceIte,reduceCtorEq,↓reduceIte]
 ·exact ⟨⟨by omega,by omega⟩,Nat.zero_le _,rfl⟩
 ·rintro ⟨out,to'⟩ ⟨ht,hl,hgo⟩
  dsimp only at ht hl hgo
  dsimp only [x34_0,x34_0d]
  simp only [↓hcsWy,go_sem,Nat.reduceAdd,Nat.reduceSub,Nat.reduceMul,Nat.reduceLT,Nat.reduceLeDiff,Nat.reduceEqDiff,Nat.reduceBEq,Nat.reduceBNe,List.reduceReplicate,reduceIte,reduceCtorEq,↓reduceIte]
  try simp only [td,reduceCtorEq]
  refine ⟨ht,fun h1=>⟨ht,⟨fun h=>⟨h,h.1⟩,fun h=>⟨h,h.1.1⟩⟩,fun h2=>?_,fun h2=>⟨by omega,h2.1.1.1.1,(out ++ [(L.getD to'.toNat (0,0)).2],(A.getD (L.getD to'.toNat (0,0)).2.toNat (0,0,[],[])).1),?_,⟨⟨h2.1.1.2,h2.1.2⟩,?_,?_⟩,rfl,rfl⟩⟩,fun h1=>?_⟩
  ·rw [← hgo]
   by_cases c:out.length=L.length
   ·rw [c,Nat.sub_self,wayGo,if_neg h1]
   ·obtain ⟨f,hf⟩:∃ f,L.length - out.length=f+1:=⟨L.length - out.length - 1,by omega⟩
    rw [hf,wayGo,if_neg h1,if_pos]
    rcases h2 with ((((h2 | h2) | h2) | h2) | h2) | h2
    ·exact .inl h2
    ·exact .inr (.inl h2)
    ·exact .inr (.inr (.inl h2))
    ·exact .inr (.inr (.inr (.inl h2)))
    ·exact .inr (.inr (.inr (.inr h2)))
    ·exact absurd h2 c
  ·dsimp only
   rw [List.length_append,List.length_singleton];omega
  ·dsimp only
   rw [List.length_append,List.length_singleton];omega
  ·dsimp only
   rw [← hgo,List.length_append,List.length_singleton,List.reverse_append]
   obtain ⟨f,hf⟩:∃ f,L.length - out.length=f+1:=⟨L.length - out.length - 1,by omega⟩
   rw [hf,show L.length - (out.length+1)=f by omega]
   conv=>rhs;rw [wayGo,if_neg h1,if_neg (by
    rintro (h3 | h3 | h3 | h3 | h3)
    ·omega
    ·omega
    ·exact h3 h2.1.1.1.2
    ·omega
    ·omega)]
   rfl
  ·have hd:wayGo L A L.length to []=out.reverse:=by
    rw [← hgo]
    cases L.length - out.length <;> rw [wayGo,if_pos h1]
   rw [hd]
   clear hgo hd
   dsimp only [x81]
   simp only [↓hcsWy,go_sem,Nat.reduceAdd,Nat.reduceSub,Nat.reduceMul,Nat.reduceLT,Nat.reduceLeDiff,Nat.reduceEqDiff,Nat.reduceBEq,Nat.reduceBNe,List.reduceReplicate,reduceIte,reduceCtorEq,↓reduceIte]
   try simp only [td,reduceCtorEq]
   refine XW_for 2000 x81_0d [17] Nat (fun k=>[(2,.val (.int .i64) (k:Int)),(3,.val (.int .i64) ((out.length:Int) - 1 - k))]) (fun k=>[(17,.row 3 (.int .i64) (revTo out k))]) (fun k=>2 * k≤out.length) (fun k=>out.length - k) 0 ?_ ?_ ?_
   ·dsimp only [x81_0d]
    simp only [go_sem,Nat.reduceAdd,Nat.reduceSub,Nat.reduceMul,Nat.reduceLT,Nat.reduceLeDiff,Nat.reduceEqDiff,Nat.reduceBEq,Nat.reduceBNe,List.reduceReplicate,reduceIte,reduceCtorEq,↓reduceIte]
    refine ⟨⟨rfl,?_⟩,rfl⟩
    rw [i64_in ((out.length:Int) - 1) (by omega)];show (out.length:Int) - 1=(out.length:Int) - 1 - ((0:Nat):Int);omega
   ·exact Nat.zero_le _
   ·intro k hk
    dsimp only [x81_0,x81_0d]
    have hr:=revTo_length out k
    simp only [↓hcsWy,go_sem,Nat.reduceAdd,Nat.reduceSub,Nat.reduceMul,Nat.reduceLT,Nat.reduceLeDiff,Nat.reduceEqDiff,Nat.reduceBEq,Nat.reduceBNe,List.reduceReplicate,reduceIte,reduceCtorEq,↓reduceIte]
    try simp only [td,reduceCtorEq]
    have hn:((out.length:Int) - 1 - k).toNat=out.length - 1 - k:=by omega
    rw [hn]
    refine ⟨fun h2=>⟨?_,k+1,by omega,by omega,⟨i64_in _ (by omega),?_⟩,rfl⟩,fun h2=>revTo_end out hk (by omega)⟩
    ·rw [List.length_set];omega
    ·rw [i64_in ((out.length:Int) - 1 - k - 1) (by omega)];show (out.length:Int) - 1 - k - 1=(out.length:Int) - 1 - ((k+1:Nat):Int);omega
end T
end Go.Proofs.YtecdcopihghnaaaGreat
end
section
namespace Go.Proofs.YtecdcopihghnaaaGreat
set_option linter.unusedVariables false
set_option linter.unusedSimpArgs false
open Go.RowKit Go.IntWalk
namespace T
def entBnd:Ent:=⟨103,.cons (.st (.cons (.int .i64) (.cons (.int .i64) (.cons (.sl (.int .i64)) (.sl (.int .i64)))))) (.cons (.int .i64) (.cons (.int .i64) .nil)),(.st (.cons (.int .i64) (.int .i64))),false,none,fun x=>(toArc x.1).rightB=true∧(0≤(x.2.1:Int)∧(x.2.1:Int)≤100000000)∧0≤(x.2.2.1:Int)∧(x.2.2.1:Int)≤100000000,fun x=>bndF x.1 x.2.1 x.2.2.1⟩
def csBnd:List Ent:=[] theorem hcsBnd (f:FuncId):findEnt csBnd f=findEnt [] f:=rfl
theorem conBnd:Con Tryz.prog entBnd:=by
 refine con_is (C:=csBnd) x103 (by kernel_rfl) (by simp [csBnd]) fun x hx hf=>?_
 obtain ⟨⟨(g:Int),(u:Int),(L:List Int),(H:List Int)⟩,(f:Int),(t:Int),_⟩:=x
 obtain ⟨hr,⟨h1,h2⟩,h3,h4⟩:=hx
 replace hr:(toArc (g,u,L,H)).right:=of_decide_eq_true hr
 replace h1:0≤f:=h1
 replace h2:f≤100000000:=h2
 replace h3:0≤t:=h3
 replace h4:t≤100000000:=h4
 obtain ⟨p,hp⟩:∃ p:Nat,f / 60=p:=⟨(f / 60).toNat,by omega⟩
 obtain ⟨q,hq⟩:∃ q:Nat,t / 60=q:=⟨(t / 60).toNat,by omega⟩
 have e1:IntKind.i64.wrap (f.tdiv 60)=(p:Int):=by
  rw [Int.tdiv_eq_ediv_of_nonneg h1,hp]
  exact i64_in _ (by omega)
 have e2:IntKind.i64.wrap (t.tdiv 60)=(q:Int):=by
  rw [Int.tdiv_eq_ediv_of_nonneg h3,hq]
  exact i64_in _ (by omega)
 have e3:IntKind.i64.wrap ((p:Int)+24)=((p+24:Nat):Int):=i64_in _ (by omega)
 have e4:IntKind.i64.wrap (((p+24:Nat):Int) - 1)=((p+23:Nat):Int):=(i64_in _ (by omega)).trans (by omega)
 have e5:IntKind.i64.wrap ((p:Int)+1)=((p+1:Nat):Int):=i64_in _ (by omega)
 have e6:(if p+23 < q then ((p+23:Nat):Int) else (q:Int))=((min (p+23) q:Nat):Int):=by split <;> omega
 have tm:∀ k:Nat,(k:Int).tmod 24=((k % 24:Nat):Int):=fun k=>by
  rw [Int.tmod_eq_emod_of_nonneg (Int.natCast_nonneg k)]
  rfl
 have hn:hoursN f t=min (q - p) 23:=by unfold hoursN;rw [hp,hq];rfl
 have hL:L.length=24:=hr.2.2.1
 have hH:H.length=24:=hr.2.2.2.1
 have hm:∀ k:Nat,k % 24 < 24:=fun k=>Nat.mod_lt _ (by omega)
 dsimp only [entBnd,x103];simp only [↓hcsBnd,e1,e2,e3,e4,e5,e6,tm,hL,hH,hm,Int.toNat_natCast,go_sem,Nat.reduceAdd,Nat.reduceSub,Nat.reduceMul,Nat.reduceLT,Nat.reduceLeDiff,Nat.reduceEqDiff,Nat.reduceBEq,Nat.reduceBNe,List.reduceReplicate,reduceIte,reduceCtorEq,↓reduceIte]
 try simp only [e1,e2,e3,e4,e5,e6,tm,hL,hH,hm,Int.toNat_natCast,td,reduceCtorEq]
 generalize hM:min (p+23) q=m
 have n60:¬ (60:Int)=0:=by decide
 have n24:¬ (24:Int)=0:=by decide
 refine ⟨n60,?_⟩
 refine ⟨n24,?_⟩
 have hM2:hoursN f t=m - p:=by omega
 refine XW_for 1000 x103_0d [0,1] Nat (fun j=>[(10,.val (.int .i64) ((p+1+j:Nat):Int))]) (fun j=>[(26,.box 72 [.val (.int .i64) (lowB L p j),.val (.int .i64) (highB H p j)])]) (fun j=>j≤m - p) (fun j=>m - p - j) 0 ?_ ?_ ?_
 ·dsimp only [x103_0d]
  simp only [go_sem,Nat.reduceAdd,Nat.reduceSub,Nat.reduceMul,Nat.reduceLT,Nat.reduceLeDiff,Nat.reduceEqDiff,Nat.reduceBEq,Nat.reduceBNe,List.reduceReplicate,reduceIte,reduceCtorEq,↓reduceIte]
  exact ⟨rfl,rfl⟩
 ·exact Nat.zero_le _
 intro j hj
 by_cases hj':j < m - p
 ·have hc1:((p+1+j:Nat):Int)≤(m:Int):=by omega
  have hc2:p+1+j≤m:=by omega
  have w2:IntKind.i64.wrap (((p+1+j:Nat):Int)+1)=((p+1+(j+1):Nat):Int):=(i64_in _ (by omega)).trans (by omega)
  dsimp only [x103_0,x103_0d]
  simp only [↓hcsBnd,hc1,hc2,w2,tm,hL,hH,hm,Int.toNat_natCast,go_sem,Nat.reduceAdd,Nat.reduceSub,Nat.reduceMul,Nat.reduceLT,Nat.reduceLeDiff,Nat.reduceEqDiff,Nat.reduceBEq,Nat.reduceBNe,List.reduceReplicate,reduceIte,reduceCtorEq,↓reduceIte]
  try simp only [hc1,hc2,w2,tm,hL,hH,hm,Int.toNat_natCast,td,reduceCtorEq]
  refine ⟨n24,j+1,by omega,hj',rfl,?_,?_⟩
  ·show _=minI (lowB L p j) (L.getD ((p+(j+1)) % 24) 0)
   unfold minI
   rw [show p+1+j=p+(j+1) by omega]
  show _=maxI (highB H p j) (H.getD ((p+(j+1)) % 24) 0)
  unfold maxI
  rw [show p+1+j=p+(j+1) by omega]
 ·have hc1:¬ ((p+1+j:Nat):Int)≤(m:Int):=by omega
  have hc2:¬ p+1+j≤m:=by omega
  dsimp only [x103_0,x103_0d]
  simp only [↓hcsBnd,hc1,hc2,Int.toNat_natCast,go_sem,Nat.reduceAdd,Nat.reduceSub,Nat.reduceMul,Nat.reduceLT,Nat.reduceLeDiff,Nat.reduceEqDiff,Nat.reduceBEq,Nat.reduceBNe,List.reduceReplicate,reduceIte,reduceCtorEq,↓reduceIte]
  try simp only [hc1,hc2,Int.toNat_natCast,td,reduceCtorEq]
  unfold bndF
  rw [hM2,hp,Int.toNat_natCast,show j=m - p by omega]
def entLeg:Ent:=⟨23,.cons (.st (.cons (.int .i64) (.cons (.sl (.st (.cons (.int .i64) (.cons (.int .i64) (.cons (.sl (.int .i64)) (.sl (.int .i64))))))) (.cons (.sl (.st (.cons (.int .i64) (.cons (.int .i64) (.cons (.int .i64) (.cons (.int .i64) (.cons (.int .i64) (.cons (.int .i64) (.cons (.int .i64) (.cons (.int .i64) (.int .i64))))))))))) (.cons (.sl (.st (.cons (.int .i64) (.cons (.int .i64) (.cons (.int .i64) (.cons (.int .i64) (.cons (.int .i64) (.cons (.int .i64) (.cons (.int .i64) (.cons (.int .i64) (.cons (.int .i64) (.int .i64)))))))))))) (.cons (.sl (.st (.cons (.int .i64) (.cons (.int .i64) .bool)))) (.st (.cons (.int .i64) (.cons (.int .i64) (.int .i64)))))))))) (.cons (.int .i64) (.cons (.int .i64) (.cons (.st (.cons (.int .i64) (.int .i64))) .nil))),.cons (.st (.cons (.int .i64) (.int .i64))) (.cons .bool .nil),true,none,fun _=>True,fun x=>((LegF x.1 x.2.1 x.2.2.1 x.2.2.2.1).1,(LegF x.1 x.2.1 x.2.2.1 x.2.2.2.1).2,())⟩
def entLg20:Ent:=⟨46,.cons (.st (.cons (.int .i64) (.cons (.sl (.st (.cons (.int .i64) (.cons (.int .i64) (.cons (.sl (.int .i64)) (.sl (.int .i64))))))) (.cons (.sl (.st (.cons (.int .i64) (.cons (.int .i64) (.cons (.int .i64) (.cons (.int .i64) (.cons (.int .i64) (.cons (.int .i64) (.cons (.int .i64) (.cons (.int .i64) (.int .i64))))))))))) (.cons (.sl (.st (.cons (.int .i64) (.cons (.int .i64) (.cons (.int .i64) (.cons (.int .i64) (.cons (.int .i64) (.cons (.int .i64) (.cons (.int .i64) (.cons (.int .i64) (.cons (.int .i64) (.int .i64)))))))))))) (.cons (.sl (.st (.cons (.int .i64) (.cons (.int .i64) .bool)))) (.st (.cons (.int .i64) (.cons (.int .i64) (.int .i64)))))))))) (.cons (.int .i64) (.cons (.int .i64) (.cons (.st (.cons (.int .i64) (.int .i64))) .nil))),.cons (.st (.cons (.int .i64) (.int .i64))) (.cons .bool .nil),true,none,fun x=>rightP x.1=true∧((0≤(x.2.2.2.1:DWin).1∧(x.2.2.2.1:DWin).1≤1048576)∧0≤(x.2.2.2.1:DWin).2∧(x.2.2.2.1:DWin).2≤1048576)∧(x.2.2.2.1:DWin).1≤(x.2.2.2.1:DWin).2,fun x=>((legF x.1 x.2.1 x.2.2.1 x.2.2.2.1).1,(legF x.1 x.2.1 x.2.2.1 x.2.2.2.1).2,())⟩
def csLg2:List Ent:=[entEarly,entWay,entBnd] theorem hcsLg2 (f:FuncId):findEnt csLg2 f=findEnt [entEarly,entWay,entBnd] f:=rfl
theorem conLg20:Con Tryz.prog entLg20:=by
 refine con_is (C:=csLg2) x46 (by kernel_rfl) (by simp [csLg2,conEarly,conWay,conBnd]) fun x hx hf=>?_
 obtain ⟨⟨(N:Int),(A:List DArc),(C:List DCar),(Q:List DReq),(P:List DPair),(S:DShift)⟩,(f:Int),(t:Int),⟨(e:Int),(l:Int)⟩,_⟩:=x
 obtain ⟨hw,⟨⟨h1,h2⟩,h3,h4⟩,h5⟩:=hx
 replace hw:rightP (N,A,C,Q,P,S)=true:=hw
 replace h1:0≤e:=h1
 replace h2:e≤1048576:=h2
 replace h3:0≤l:=h3
 replace h4:l≤1048576:=h4
 replace h5:e≤l:=h5
 have hn:=rightR_n (rightP_iff.1 hw).1
 dsimp only at hn
 by_cases hft:f=t
 ·subst hft
  dsimp only [entLg20,x46];simp only [↓hcsLg2,entEarly,entWay,entBnd,go_sem,Nat.reduceAdd,Nat.reduceSub,Nat.reduceMul,Nat.reduceLT,Nat.reduceLeDiff,Nat.reduceEqDiff,Nat.reduceBEq,Nat.reduceBNe,List.reduceReplicate,reduceIte,reduceCtorEq,↓reduceIte]
  try simp only [td,reduceCtorEq]
  unfold legF
  rw [if_pos rfl]
 dsimp only [entLg20,x46];simp only [↓hcsLg2,entEarly,entWay,entBnd,hft,go_sem,Nat.reduceAdd,Nat.reduceSub,Nat.reduceMul,Nat.reduceLT,Nat.reduceLeDiff,Nat.reduceEqDiff,Nat.reduceBEq,Nat.reduceBNe,List.reduceReplicate,reduceIte,reduceCtorEq,↓reduceIte]
 try simp only [hft,td,reduceCtorEq]
 refine ⟨by have:=earlyLen (rightP_iff.1 hw).1 f e true;dsimp only at this;omega,?_⟩
 have hlf:legF (N,A,C,Q,P,S) f t (e,l)=((legWay (N,A,C,Q,P,S) f t (e,l)).foldl (legStep A e l) (0,0),decide (legWay (N,A,C,Q,P,S) f t (e,l)≠[])):=by
  unfold legF
  rw [if_neg hft]
 have hbd:=leg_bd hw f t (e,l)
 have hin:∀ i ∈ legWay (N,A,C,Q,P,S) f t (e,l),0≤i∧i < A.length:=fun i hi=>wayF_in i hi
 dsimp only at hbd
 have hWd:wayF (earlyF N A f e true).1 A t=legWay (N,A,C,Q,P,S) f t (e,l):=rfl
 rw [hWd]
 generalize hWW:legWay (N,A,C,Q,P,S) f t (e,l)=W at hlf hbd hin
 have hwl:W.length≤2000:=by rw [← hWW];exact legWay_len hw f t (e,l)
 refine XW_for 1000 x46_0d [0,1,2] Nat (fun j=>[(39,.val (.int .i64) (j:Int))]) (fun j=>[(4,.box 72 [.val (.int .i64) ((W.take j).foldl (legStep A e l) (0,0)).1,.val (.int .i64) ((W.take j).foldl (legStep A e l) (0,0)).2])]) (fun j=>j≤W.length) (fun j=>W.length - j) 0 ?_ ?_ ?_
 ·dsimp only [x46_0d]
  simp only [go_sem,Nat.reduceAdd,Nat.reduceSub,Nat.reduceMul,Nat.reduceLT,Nat.reduceLeDiff,Nat.reduceEqDiff,Nat.reduceBEq,Nat.reduceBNe,List.reduceReplicate,reduceIte,reduceCtorEq,↓reduceIte]
  exact ⟨rfl,rfl,rfl⟩
 ·exact Nat.zero_le _
 intro j hj
 by_cases hj':j < W.length
 ·have w2:IntKind.i64.wrap ((j:Int)+1)=((j+1:Nat):Int):=i64_in _ (by omega)
  have hmem:=getD_mem2 (d:=(0:Int)) hj'
  have hk:=hin _ hmem
  have hts:W.take (j+1)=W.take j ++ [W.getD j 0]:=by
   rw [List.take_succ_eq_append_getElem hj']
   simp [List.getD,hj']
  have hb:=hbd j
  have hb2:=hbd (j+1)
  rw [hts,List.foldl_append] at hb2
  generalize hS:W.getD j 0=k at hmem hk hts hb2
  generalize hO:(W.take j).foldl (legStep A e l) (0,0)=out at hb hb2
  obtain ⟨k,rfl⟩:∃ z:Nat,k=z:=⟨k.toNat,by omega⟩
  have hka:k < A.length:=by omega
  have hr:=(hn.2.2.2 _ (getD_mem2 (d:=((0,0,[],[]):DArc)) hka)).1
  have hst:legStep A e l out (k:Int)=(out.1+(bndF (A.getD k (0,0,[],[])) (e+out.1) (l+out.2)).1,out.2+(bndF (A.getD k (0,0,[],[])) (e+out.1) (l+out.2)).2):=rfl
  simp only [List.foldl_cons,List.foldl_nil,hst] at hb2
  obtain ⟨o1,o2⟩:=out
  dsimp only at hb hb2 hst
  have w3:IntKind.i64.wrap (e+o1)=e+o1:=i64_in _ (by omega)
  have w4:IntKind.i64.wrap (l+o2)=l+o2:=i64_in _ (by omega)
  generalize hB:bndF (A.getD k (0,0,[],[])) (e+o1) (l+o2)=bb at hb2 hst
  have hbl:=low_bd (show (toArc (A.getD k (0,0,[],[]))).right from of_decide_eq_true hr) ((e+o1) / 60).toNat (hoursN (e+o1) (l+o2))
  have w5:IntKind.i64.wrap (o1+bb.1)=o1+bb.1:=i64_in _ (by
   rw [← hB]
   unfold bndF
   dsimp only at hbl ⊢
   omega)
  have w6:IntKind.i64.wrap (o2+bb.2)=o2+bb.2:=i64_in _ (by
   rw [← hB]
   unfold bndF
   dsimp only at hbl ⊢
   omega)
  dsimp only [x46_0,x46_0d]
  simp only [↓hcsLg2,entEarly,entWay,entBnd,hj',hS,hO,hka,hr,w2,w3,w4,hB,w5,w6,Int.toNat_natCast,go_sem,Nat.reduceAdd,Nat.reduceSub,Nat.reduceMul,Nat.reduceLT,Nat.reduceLeDiff,Nat.reduceEqDiff,Nat.reduceBEq,Nat.reduceBNe,List.reduceReplicate,reduceIte,reduceCtorEq,↓reduceIte]
  try simp only [hj',hS,hO,hka,hr,w2,w3,w4,hB,w5,w6,Int.toNat_natCast,td,reduceCtorEq]
  refine ⟨⟨⟨(by omega:(0:Int)≤e+o1),(by omega:e+o1≤(100000000:Int))⟩,(by omega:(0:Int)≤l+o2),(by omega:l+o2≤(100000000:Int))⟩,j+1,by omega,hj',rfl,?_⟩
  rw [hts,List.foldl_append,hO]
  exact ⟨(congrArg Prod.fst hst).symm,(congrArg Prod.snd hst).symm⟩
 ·obtain rfl:j=W.length:=by omega
  dsimp only [x46_0,x46_0d]
  simp only [↓hcsLg2,entEarly,entWay,entBnd,hj',go_sem,Nat.reduceAdd,Nat.reduceSub,Nat.reduceMul,Nat.reduceLT,Nat.reduceLeDiff,Nat.reduceEqDiff,Nat.reduceBEq,Nat.reduceBNe,List.reduceReplicate,reduceIte,reduceCtorEq,↓reduceIte]
  try simp only [hj',td,reduceCtorEq]
  rw [hlf]
  try rw [List.take_length]
  have:decide (0 < (W.length:Int))=decide (W≠[]):=by
   rw [Bool.eq_iff_iff]
   simp [List.length_pos_iff]
  rw [this]
def csLeg:List Ent:=[entPlR,entPin,entLg20] theorem hcsLeg (f:FuncId):findEnt csLeg f=findEnt [entPlR,entPin,entLg20] f:=rfl
set_option maxHeartbeats 4000000 in
theorem conLeg:Con Tryz.prog entLeg:=by
 refine con_is (C:=csLeg) x23 (by kernel_rfl) (by simp [csLeg,conPlR,conPin,conLg20]) fun x hx hf=>?_
 obtain ⟨⟨(N:Int),(A:List DArc),(C:List DCar),(Q:List DReq),(P:List DPair),(S:DShift)⟩,(f:Int),(t:Int),⟨(e:Int),(l:Int)⟩,_⟩:=x
 have hA2:∀ m a b:Int,allIn m [a,b]=true ↔ (0≤a∧a≤m)∧0≤b∧b≤m:=fun m a b=>by unfold allIn;simp
 have hno:¬ (rightP (N,A,C,Q,P,S)=true∧((0≤f∧f < N)∧0≤t∧t < N)∧((0≤e∧e≤1048576)∧0≤l∧l≤1048576)∧e≤l)→LegF (N,A,C,Q,P,S) f t (e,l)=((0,0),false):=fun h=>by
  unfold LegF
  exact if_neg h
 have hwr:rightP (N,A,C,Q,P,S)=true→IntKind.i64.wrap (N - 1)=N - 1:=fun hw=>by
  have hn:=rightR_n (rightP_iff.1 hw).1
  dsimp only at hn
  exact i64_in _ (by omega)
 by_cases hgo:(rightP (N,A,C,Q,P,S)=true∧((0≤f∧f < N)∧0≤t∧t < N)∧((0≤e∧e≤1048576)∧0≤l∧l≤1048576)∧e≤l)
 ·have hyes:LegF (N,A,C,Q,P,S) f t (e,l)=legF (N,A,C,Q,P,S) f t (e,l):=if_pos hgo
  obtain ⟨hw,⟨h1,h2⟩,⟨h3,h4⟩,h5⟩:=hgo
  have w:=hwr hw
  have a1:allIn (IntKind.i64.wrap (N - 1)) [f,t]=true:=by rw [w,hA2];omega
  have a2:allIn 1048576 [e,l]=true:=(hA2 _ _ _).2 ⟨h3,h4⟩
  have a3:¬ e > l:=by omega
  have a3':¬ l < e:=by omega
  dsimp only [entLeg,x23];simp only [↓hcsLeg,entPlR,entPin,entLg20,undef,hw,a1,a2,a3,a3',hyes,go_sem,Nat.reduceAdd,Nat.reduceSub,Nat.reduceMul,Nat.reduceLT,Nat.reduceLeDiff,Nat.reduceEqDiff,Nat.reduceBEq,Nat.reduceBNe,List.reduceReplicate,reduceIte,reduceCtorEq,↓reduceIte]
  try simp only [hw,hyes,td,reduceCtorEq]
  exact ⟨⟨h3,h4⟩,h5⟩
 ·have hz:=hno hgo
  cases hw:rightP (N,A,C,Q,P,S) <;> cases h1:allIn (IntKind.i64.wrap (N - 1)) [f,t] <;> cases h2:allIn 1048576 [e,l] <;> by_cases h3:e > l <;>
  first
  | (
    have h3':=h3
    rw [gt_iff_lt] at h3'
    dsimp only [entLeg,x23];simp only [↓hcsLeg,entPlR,entPin,entLg20,undef,hw,h1,h2,h3,h3',hz,go_sem,Nat.reduceAdd,Nat.reduceSub,Nat.reduceMul,Nat.reduceLT,Nat.reduceLeDiff,Nat.reduceEqDiff,Nat.reduceBEq,Nat.reduceBNe,List.reduceReplicate,reduceIte,reduceCtorEq,↓reduceIte]
    try simp only [hz,td,reduceCtorEq]
    done)
  | (
    exfalso
    have w:=hwr hw
    rw [w,hA2] at h1
    rw [hA2] at h2
    exact hgo ⟨hw,⟨⟨h1.1.1,by omega⟩,h1.2.1,by omega⟩,h2,by omega⟩)
end T
end Go.Proofs.YtecdcopihghnaaaGreat
end
section
namespace Go.Proofs.YtecdcopihghnaaaGreat
set_option linter.unusedVariables false
set_option linter.unusedSimpArgs false
open Go.RowKit Go.IntWalk
namespace T
theorem at_next {ss:List DStop} {x:DStop} {j:Nat} (hj:j < ss.length) (hn:x ∉ ss.take j) (h:ss.getD j dStop≠x):x ∉ ss.take (j+1):=by
 rw [take_next hj,List.mem_append,List.mem_singleton]
 exact fun q=>q.elim hn fun e=>h e.symm
theorem at_end {ss:List DStop} {x:DStop} {j:Nat} (hj:ss.length≤j) (hn:x ∉ ss.take j):x ∉ ss:=by rwa [List.take_of_length_le hj] at hn
def entPlc:Ent:=⟨178,.cons (.int .i64) .nil,.bool,false,none,fun _=>True,fun x=>place1 x.1⟩
def csPlc:List Ent:=[] theorem hcsPlc (f:FuncId):findEnt csPlc f=findEnt [] f:=rfl
theorem conPlc:Con Tryz.prog entPlc:=by
 refine con_is (C:=csPlc) x178 (by kernel_rfl) (by simp [csPlc]) fun x hx hf=>?_
 obtain ⟨(n:Int),_⟩:=x
 dsimp only [entPlc,x178];simp only [↓hcsPlc,go_sem,Nat.reduceAdd,Nat.reduceSub,Nat.reduceMul,Nat.reduceLT,Nat.reduceLeDiff,Nat.reduceEqDiff,Nat.reduceBEq,Nat.reduceBNe,List.reduceReplicate,reduceIte,reduceCtorEq,↓reduceIte];try simp only [td,reduceCtorEq]
 simp [place1]
def entPlace:Ent:=⟨111,.cons (.int .i64) .nil,.bool,false,none,fun _=>True,fun x=>place1 x.1⟩
def csPl2:List Ent:=[] theorem hcsPl2 (f:FuncId):findEnt csPl2 f=findEnt [] f:=rfl
theorem conPlace:Con Tryz.prog entPlace:=by
 refine con_is (C:=csPl2) x111 (by kernel_rfl) (by simp [csPl2]) fun x hx hf=>?_
 obtain ⟨(n:Int),_⟩:=x
 dsimp only [entPlace,x111];simp only [↓hcsPl2,go_sem,Nat.reduceAdd,Nat.reduceSub,Nat.reduceMul,Nat.reduceLT,Nat.reduceLeDiff,Nat.reduceEqDiff,Nat.reduceBEq,Nat.reduceBNe,List.reduceReplicate,reduceIte,reduceCtorEq,↓reduceIte];try simp only [td,reduceCtorEq]
 simp [place1]
def entPlaces:Ent:=⟨141,.cons (.st (.cons (.int .i64) (.cons (.int .i64) (.int .i64)))) .nil,.bool,false,none,fun _=>True,fun x=>placesB x.1⟩
def csPls:List Ent:=[entPlc] theorem hcsPls (f:FuncId):findEnt csPls f=findEnt [entPlc] f:=rfl
theorem conPlaces:Con Tryz.prog entPlaces:=by
 refine con_is (C:=csPls) x141 (by kernel_rfl) (by simp [csPls,conPlc]) fun x hx hf=>?_
 obtain ⟨⟨(a:Int),(b:Int),(c:Int)⟩,_⟩:=x
 dsimp only [entPlaces,x141];simp only [↓hcsPls,entPlc,go_sem,Nat.reduceAdd,Nat.reduceSub,Nat.reduceMul,Nat.reduceLT,Nat.reduceLeDiff,Nat.reduceEqDiff,Nat.reduceBEq,Nat.reduceBNe,List.reduceReplicate,reduceIte,reduceCtorEq,↓reduceIte];try simp only [td,reduceCtorEq]
 simp [placesB,Bool.and_assoc]
def entOf:Ent:=⟨154,.cons (.st (.cons (.int .i64) (.cons (.int .i64) (.cons (.int .i64) (.cons (.int .i64) (.cons (.int .i64) (.cons (.int .i64) (.cons (.int .i64) (.cons (.int .i64) (.cons (.int .i64) (.int .i64))))))))))) .nil,(.st (.cons (.int .i64) (.cons (.int .i64) (.int .i64)))),false,none,fun _=>True,fun x=>reqLoad x.1⟩
def csOf:List Ent:=[] theorem hcsOf (f:FuncId):findEnt csOf f=findEnt [] f:=rfl
theorem conOf:Con Tryz.prog entOf:=by
 refine con_is (C:=csOf) x154 (by kernel_rfl) (by simp [csOf]) fun x hx hf=>?_
 obtain ⟨⟨(a:Int),(b:Int),(c:Int),(d:Int),(e:Int),(f:Int),(g:Int),(h:Int),(i:Int),(j:Int)⟩,_⟩:=x
 dsimp only [entOf,x154];simp only [↓hcsOf,go_sem,Nat.reduceAdd,Nat.reduceSub,Nat.reduceMul,Nat.reduceLT,Nat.reduceLeDiff,Nat.reduceEqDiff,Nat.reduceBEq,Nat.reduceBNe,List.reduceReplicate,reduceIte,reduceCtorEq,↓reduceIte];try simp only [td,reduceCtorEq]
 rfl
def entAt17:Ent:=⟨169,.cons (.sl (.st (.cons (.int .i64) .bool))) (.cons (.int .i64) (.cons .bool .nil)),(.int .i64),false,none,fun _=>True,fun x=>atF (x.2.1,x.2.2.1) x.1⟩
def csAt:List Ent:=[] theorem hcsAt (f:FuncId):findEnt csAt f=findEnt [] f:=rfl
theorem conAt17:Con Tryz.prog entAt17:=by
 refine con_is (C:=csAt) x169 (by kernel_rfl) (by simp [csAt]) fun x hx hf=>?_
 obtain ⟨(ss:List DStop),(k:Int),(p:Bool),_⟩:=x
 have hl:ss.length≤9223372036854775807:=hf.1.1
 dsimp only [entAt17,x169];simp only [↓hcsAt,go_sem,Nat.reduceAdd,Nat.reduceSub,Nat.reduceMul,Nat.reduceLT,Nat.reduceLeDiff,Nat.reduceEqDiff,Nat.reduceBEq,Nat.reduceBNe,List.reduceReplicate,reduceIte,reduceCtorEq,↓reduceIte];try simp only [td,reduceCtorEq]
 refine XW_for 1000 x169_0d [] Nat (fun j=>[(7,.val (.int .i64) (j:Int))]) (fun _=>[]) (fun j=>j≤ss.length∧(k,p) ∉ ss.take j) (fun j=>ss.length - j) 0 ?_ ?_ ?_
 ·dsimp only [x169_0d]
  simp only [go_sem,Nat.reduceAdd,Nat.reduceSub,Nat.reduceMul,Nat.reduceLT,Nat.reduceLeDiff,Nat.reduceEqDiff,Nat.reduceBEq,Nat.reduceBNe,List.reduceReplicate,reduceIte,reduceCtorEq,↓reduceIte]
  try rfl
 ·exact ⟨Nat.zero_le _,by simp⟩
 ·rintro j ⟨hj,hn⟩
  dsimp only [x169_0,x169_0d]
  simp only [↓hcsAt,go_sem,Nat.reduceAdd,Nat.reduceSub,Nat.reduceMul,Nat.reduceLT,Nat.reduceLeDiff,Nat.reduceEqDiff,Nat.reduceBEq,Nat.reduceBNe,List.reduceReplicate,reduceIte,reduceCtorEq,↓reduceIte]
  try simp only [td,reduceCtorEq]
  have w2:j < ss.length→IntKind.i64.wrap ((j:Int)+1)=((j+1:Nat):Int):=fun h=>i64_in _ (by omega)
  refine ⟨fun hj'=>⟨⟨hj',fun e=>⟨e,hj'⟩⟩,fun e=>(atF_at (x:=(k,p)) hj' (Prod.ext e.1 e.2) hn).symm,fun e=>⟨j+1,by omega,⟨hj',at_next hj' hn fun q=>e (congrArg Prod.fst q) (congrArg Prod.snd q)⟩,w2 hj'⟩⟩,fun hj'=>(atF_none (at_end (by omega) hn)).symm⟩
def entIdxS:Ent:=⟨181,.cons (.sl (.st (.cons (.int .i64) .bool))) (.cons (.st (.cons (.int .i64) .bool)) .nil),(.int .i64),false,none,fun _=>True,fun x=>atF x.2.1 x.1⟩
def csIxs:List Ent:=[] theorem hcsIxs (f:FuncId):findEnt csIxs f=findEnt [] f:=rfl
theorem conIdxS:Con Tryz.prog entIdxS:=by
 refine con_is (C:=csIxs) x181 (by kernel_rfl) (by simp [csIxs]) fun x hx hf=>?_
 obtain ⟨(ss:List DStop),⟨(k:Int),(p:Bool)⟩,_⟩:=x
 have hl:ss.length≤9223372036854775807:=hf.1.1
 dsimp only [entIdxS,x181];simp only [↓hcsIxs,go_sem,Nat.reduceAdd,Nat.reduceSub,Nat.reduceMul,Nat.reduceLT,Nat.reduceLeDiff,Nat.reduceEqDiff,Nat.reduceBEq,Nat.reduceBNe,List.reduceReplicate,reduceIte,reduceCtorEq,↓reduceIte];try simp only [td,reduceCtorEq]
 refine XW_for 1000 x181_0d [0] Nat (fun j=>[(8,.val (.int .i64) (j:Int))]) (fun _=>[]) (fun j=>j≤ss.length∧(k,p) ∉ ss.take j) (fun j=>ss.length - j) 0 ?_ ?_ ?_
 ·dsimp only [x181_0d]
  simp only [go_sem,Nat.reduceAdd,Nat.reduceSub,Nat.reduceMul,Nat.reduceLT,Nat.reduceLeDiff,Nat.reduceEqDiff,Nat.reduceBEq,Nat.reduceBNe,List.reduceReplicate,reduceIte,reduceCtorEq,↓reduceIte]
  try rfl
 ·exact ⟨Nat.zero_le _,by simp⟩
 ·rintro j ⟨hj,hn⟩
  dsimp only [x181_0,x181_0d]
  simp only [↓hcsIxs,go_sem,Nat.reduceAdd,Nat.reduceSub,Nat.reduceMul,Nat.reduceLT,Nat.reduceLeDiff,Nat.reduceEqDiff,Nat.reduceBEq,Nat.reduceBNe,List.reduceReplicate,reduceIte,reduceCtorEq,↓reduceIte]
  try simp only [td,reduceCtorEq]
  have w2:j < ss.length→IntKind.i64.wrap ((j:Int)+1)=((j+1:Nat):Int):=fun h=>i64_in _ (by omega)
  refine ⟨fun hj'=>⟨hj',fun e=>(atF_at (x:=(k,p)) hj' (Prod.ext e.1.symm e.2.symm) hn).symm,fun e=>⟨j+1,by omega,⟨hj',at_next hj' hn fun q=>e (congrArg Prod.fst q).symm (congrArg Prod.snd q).symm⟩,w2 hj'⟩⟩,fun hj'=>(atF_none (at_end (by omega) hn)).symm⟩
end T
end Go.Proofs.YtecdcopihghnaaaGreat
end
section
namespace Go.Proofs.YtecdcopihghnaaaGreat
set_option linter.unusedVariables false
set_option linter.unusedSimpArgs false
open Go.RowKit Go.IntWalk
namespace T
theorem mget_keys (ks:List Int) (k:Int):mget false (ks.map fun k=>(k,true)) k=decide (k ∈ ks):=by
 induction ks with
 | nil=>rfl
 | cons p r ih =>
  rw [List.map_cons,mget]
  dsimp only
  by_cases c:p=k
  ·rw [if_pos c];exact (decide_eq_true (by simp [c])).symm
  ·rw [if_neg c,ih];exact decide_eq_decide.2 (by simp [Ne.symm c])
theorem mset_keys (ks:List Int) (k:Int):mset (ks.map fun k=>(k,true)) k true=(kset ks k).map fun k=>(k,true):=by
 induction ks with
 | nil=>rfl
 | cons p r ih =>
  rw [List.map_cons,mset,kset]
  dsimp only
  by_cases c:p=k
  ·rw [if_pos c,if_pos c];rfl
  ·rw [if_neg c,if_neg c,ih];rfl
theorem mdel_keys (ks:List Int) (k:Int):mdel (ks.map fun k=>(k,true)) k=(kdel ks k).map fun k=>(k,true):=by
 induction ks with
 | nil=>rfl
 | cons p r ih =>
  rw [List.map_cons,mdel,kdel]
  dsimp only
  by_cases c:p=k
  ·rw [if_pos c,if_pos c]
  ·rw [if_neg c,if_neg c,ih];rfl
theorem drop_next {ss:List DStop} {j:Nat} (h:j < ss.length):ss.drop j=ss.getD j dStop :: ss.drop (j+1):=by rw [getD_get h];exact List.drop_eq_getElem_cons h
def entCtS:Ent:=⟨155,.cons (.sl (.st (.cons (.int .i64) .bool))) (.cons (.st (.cons (.int .i64) .bool)) .nil),.bool,false,none,fun _=>True,fun x=>decide (x.2.1 ∈ (x.1:List DStop))⟩
def csCts:List Ent:=[entIdxS] theorem hcsCts (f:FuncId):findEnt csCts f=findEnt [entIdxS] f:=rfl
theorem conCtS:Con Tryz.prog entCtS:=by
 refine con_is (C:=csCts) x155 (by kernel_rfl) (by simp [csCts,conIdxS]) fun x hx hf=>?_
 obtain ⟨(ss:List DStop),⟨(k:Int),(p:Bool)⟩,_⟩:=x
 dsimp only [entCtS,x155];simp only [↓hcsCts,entIdxS,go_sem,Nat.reduceAdd,Nat.reduceSub,Nat.reduceMul,Nat.reduceLT,Nat.reduceLeDiff,Nat.reduceEqDiff,Nat.reduceBEq,Nat.reduceBNe,List.reduceReplicate,reduceIte,reduceCtorEq,↓reduceIte];try simp only [td,reduceCtorEq]
 exact decide_eq_decide.2 at_mem
def entIn:Ent:=⟨171,.cons (.sl (.st (.cons (.int .i64) .bool))) (.cons (.int .i64) (.cons (.int .i64) .nil)),.bool,false,none,fun _=>True,fun x=>inB x.1 x.2.1 x.2.2.1⟩
def csIn:List Ent:=[entAt17] theorem hcsIn (f:FuncId):findEnt csIn f=findEnt [entAt17] f:=rfl
theorem conIn:Con Tryz.prog entIn:=by
 refine con_is (C:=csIn) x171 (by kernel_rfl) (by simp [csIn,conAt17]) fun x hx hf=>?_
 obtain ⟨(ss:List DStop),(k:Int),(j:Int),_⟩:=x
 dsimp only [entIn,x171];simp only [↓hcsIn,entAt17,go_sem,Nat.reduceAdd,Nat.reduceSub,Nat.reduceMul,Nat.reduceLT,Nat.reduceLeDiff,Nat.reduceEqDiff,Nat.reduceBEq,Nat.reduceBNe,List.reduceReplicate,reduceIte,reduceCtorEq,↓reduceIte];try simp only [td,reduceCtorEq]
 rfl
def entRRightS:Ent:=⟨109,.cons (.sl (.st (.cons (.int .i64) .bool))) (.cons (.sl (.st (.cons (.int .i64) (.cons (.int .i64) (.cons (.int .i64) (.cons (.int .i64) (.cons (.int .i64) (.cons (.int .i64) (.cons (.int .i64) (.cons (.int .i64) (.cons (.int .i64) (.int .i64)))))))))))) .nil),.bool,false,none,fun _=>True,fun x=>rightS x.1 x.2.1⟩
def csRrs:List Ent:=[entAt17,entPlace] theorem hcsRrs (f:FuncId):findEnt csRrs f=findEnt [entAt17,entPlace] f:=rfl
theorem conRRightS:Con Tryz.prog entRRightS:=by
 refine con_is (C:=csRrs) x109 (by kernel_rfl) (by simp [csRrs,conAt17,conPlace]) fun x hx hf=>?_
 obtain ⟨(ss:List DStop),(rs:List DReq),_⟩:=x
 have hl:ss.length≤9223372036854775807:=hf.1.1
 dsimp only [entRRightS,x109];simp only [↓hcsRrs,entAt17,entPlace,go_sem,Nat.reduceAdd,Nat.reduceSub,Nat.reduceMul,Nat.reduceLT,Nat.reduceLeDiff,Nat.reduceEqDiff,Nat.reduceBEq,Nat.reduceBNe,List.reduceReplicate,reduceIte,reduceCtorEq,↓reduceIte];try simp only [td,reduceCtorEq]
 refine ⟨fun h=>?_,fun h=>?_⟩
 ·refine (decide_eq_false fun q=>?_).symm
  have:=q.1
  omega
 refine XW_for 1000 x109_0d [] Nat (fun j=>[(5,.val (.int .i64) (j:Int))]) (fun _=>[]) (fun j=>j≤ss.length∧∀ i,i < j→OkRef ss rs i) (fun j=>ss.length - j) 0 ?_ ?_ ?_
 ·dsimp only [x109_0d]
  simp only [go_sem,Nat.reduceAdd,Nat.reduceSub,Nat.reduceMul,Nat.reduceLT,Nat.reduceLeDiff,Nat.reduceEqDiff,Nat.reduceBEq,Nat.reduceBNe,List.reduceReplicate,reduceIte,reduceCtorEq,↓reduceIte]
  try rfl
 ·exact ⟨Nat.zero_le _,fun i hi=>by omega⟩
 ·rintro j ⟨hj,hok⟩
  dsimp only [x109_0,x109_0d]
  simp only [↓hcsRrs,entAt17,entPlace,go_sem,Nat.reduceAdd,Nat.reduceSub,Nat.reduceMul,Nat.reduceLT,Nat.reduceLeDiff,Nat.reduceEqDiff,Nat.reduceBEq,Nat.reduceBNe,List.reduceReplicate,reduceIte,reduceCtorEq,↓reduceIte]
  try simp only [td,reduceCtorEq]
  have w2:j < ss.length→IntKind.i64.wrap ((j:Int)+1)=((j+1:Nat):Int):=fun h=>i64_in _ (by omega)
  have no:j < ss.length→¬ OkRef ss rs j→false=rightS ss rs:=fun hj' q=>(decide_eq_false fun z=>q ((right_ref.1 z).2 j hj')).symm
  have yes:j < ss.length→OkRef ss rs j→∀ i,i < j+1→OkRef ss rs i:=fun hj' q i hi=>by
   by_cases c:i=j
   ·rw [c];exact q
   ·exact hok i (by omega)
  have hR:OkRef ss rs j ↔ (0≤(ss.getD j dStop).1∧(ss.getD j dStop).1 < rs.length)∧atF (ss.getD j dStop) ss=j∧placesB (reqLoad (rs.getD (ss.getD j dStop).1.toNat dReq))=true∧((ss.getD j dStop).2=true→(j:Int) < atF ((ss.getD j dStop).1,false) ss):=Iff.rfl
  have hp:placesB (reqLoad (rs.getD (ss.getD j dStop).1.toNat dReq))=(place1 (reqLoad (rs.getD (ss.getD j dStop).1.toNat dReq)).1 && (place1 (reqLoad (rs.getD (ss.getD j dStop).1.toNat dReq)).2.1 && place1 (reqLoad (rs.getD (ss.getD j dStop).1.toNat dReq)).2.2)):=rfl
  rw [hp] at hR
  unfold reqLoad at hR
  dsimp only at hR
  generalize place1 (rs.getD (Int.toNat (ss.getD j (0,false)).fst) (0,0,0,0,0,0,0,0,0,0)).snd.snd.snd.snd.snd.snd.snd.fst=p1 at hR ⊢
  generalize place1 (rs.getD (Int.toNat (ss.getD j (0,false)).fst) (0,0,0,0,0,0,0,0,0,0)).snd.snd.snd.snd.snd.snd.snd.snd.fst=p2 at hR ⊢
  generalize place1 (rs.getD (Int.toNat (ss.getD j (0,false)).fst) (0,0,0,0,0,0,0,0,0,0)).snd.snd.snd.snd.snd.snd.snd.snd.snd=p3 at hR ⊢
  have he:((ss.getD j (0,false)).1,(ss.getD j (0,false)).2)=ss.getD j dStop:=rfl
  rw [he]
  have hpp:(p1 && (p2 && p3))=true ↔ ((p1=true∧p2=true)∧p3=true):=by simp [and_assoc]
  have hpn:((p1=false∨p2=false)∨p3=false)→¬ ((p1=true∧p2=true)∧p3=true):=by rintro ((q | q) | q) <;> simp [q]
  rw [hpp] at hR
  refine ⟨fun hj'=>⟨hj',fun q=>⟨q,hj'⟩,fun q=>no hj' fun z=>?_,fun q=>⟨q.1,⟨fun z=>⟨z,hj'⟩,fun z=>⟨z,fun y=>⟨z,y⟩⟩⟩,fun z=>no hj' fun y=>?_,fun z=>⟨j+1,by omega,⟨hj',yes hj' (hR.2 ⟨q.1,q.2,z.1,z.2⟩)⟩,w2 hj'⟩⟩⟩,fun hj'=>?_⟩
  ·have:=hR.1 z
   rcases q with q | q
   ·have:=this.1;dsimp only [dStop] at this;omega
   ·exact q this.2.1
  ·have y:=hR.1 y
   rcases z with z | z
   ·exact hpn z y.2.2.1
   ·have:=y.2.2.2 z.1
    have:=z.2
    dsimp only [dStop] at *
    omega
  ·exact (decide_eq_true (right_ref.2 ⟨by omega,fun i hi=>hok i (by omega)⟩)).symm
def entRightS:Ent:=⟨100,.cons (.sl (.st (.cons (.int .i64) .bool))) (.cons (.sl (.st (.cons (.int .i64) (.cons (.int .i64) (.cons (.int .i64) (.cons (.int .i64) (.cons (.int .i64) (.cons (.int .i64) (.cons (.int .i64) (.cons (.int .i64) (.cons (.int .i64) (.int .i64)))))))))))) .nil),.bool,false,none,fun _=>True,fun x=>rightS x.1 x.2.1⟩
def csRs:List Ent:=[entOf,entPlaces,entCtS] theorem hcsRs (f:FuncId):findEnt csRs f=findEnt [entOf,entPlaces,entCtS] f:=rfl
theorem conRightS:Con Tryz.prog entRightS:=by
 refine con_is (C:=csRs) x100 (by kernel_rfl) (by simp [csRs,conOf,conPlaces,conCtS]) fun x hx hf=>?_
 obtain ⟨(ss:List DStop),(rs:List DReq),_⟩:=x
 have hl:ss.length≤9223372036854775807:=hf.1.1
 dsimp only [entRightS,x100];simp only [↓hcsRs,entOf,entPlaces,entCtS,go_sem,Nat.reduceAdd,Nat.reduceSub,Nat.reduceMul,Nat.reduceLT,Nat.reduceLeDiff,Nat.reduceEqDiff,Nat.reduceBEq,Nat.reduceBNe,List.reduceReplicate,reduceIte,reduceCtorEq,↓reduceIte];try simp only [td,reduceCtorEq]
 refine ⟨fun h=>?_,fun h=>?_⟩
 ·refine (decide_eq_false fun q=>?_).symm
  have:=q.1
  omega
 refine XW_for 1000 x100_0d [] (Nat × List Int) (fun s=>[(6,.val (.int .i64) ((s.1:Int) - 1))]) (fun s=>[(9,.mp .i64 .bool (s.2.map fun k=>(k,true)))])
   (fun s=>s.1≤ss.length∧(∀ k,k ∈ s.2 ↔ (k,false) ∈ ss.drop s.1)∧∀ i,s.1≤i→i < ss.length→OkAt ss rs i) (fun s=>s.1) (ss.length,[]) ?_ ?_ ?_
 ·dsimp only [x100_0d]
  simp only [go_sem,Nat.reduceAdd,Nat.reduceSub,Nat.reduceMul,Nat.reduceLT,Nat.reduceLeDiff,Nat.reduceEqDiff,Nat.reduceBEq,Nat.reduceBNe,List.reduceReplicate,reduceIte,reduceCtorEq,↓reduceIte]
  exact i64_in _ (by omega)
 ·exact ⟨Nat.le_refl _,fun k=>by simp,fun i (hi:ss.length≤i) hl=>by omega⟩
 ·rintro ⟨j,ks⟩ ⟨hj,hks,hok⟩
  dsimp only [x100_0,x100_0d]
  simp only [↓hcsRs,entOf,entPlaces,entCtS,go_sem,Nat.reduceAdd,Nat.reduceSub,Nat.reduceMul,Nat.reduceLT,Nat.reduceLeDiff,Nat.reduceEqDiff,Nat.reduceBEq,Nat.reduceBNe,List.reduceReplicate,reduceIte,reduceCtorEq,↓reduceIte]
  try simp only [td,reduceCtorEq]
  dsimp only at hj hks hok
  by_cases hj0:j=0
  ·subst hj0
   refine ⟨fun q=>by omega,fun _=>(decide_eq_true ⟨by omega,fun i hi=>hok i (by omega) hi⟩).symm⟩
  obtain ⟨j,rfl⟩:∃ m,j=m+1:=⟨j - 1,by omega⟩
  have hj':j < ss.length:=by omega
  have e1:((j+1:Nat):Int) - 1=(j:Int):=by omega
  have w2:IntKind.i64.wrap ((j:Int) - 1)=(j:Int) - 1:=i64_in _ (by omega)
  have hd:=drop_next hj'
  have no:¬ OkAt ss rs j→false=rightS ss rs:=fun q=>(decide_eq_false fun z=>q (z.2 j hj')).symm
  have yes:OkAt ss rs j→∀ i,j≤i→i < ss.length→OkAt ss rs i:=fun q i hi hl=>by
   by_cases c:i=j
   ·rw [c];exact q
   ·exact hok i (by omega) hl
  have hR:OkAt ss rs j ↔ (0≤(ss.getD j dStop).1∧(ss.getD j dStop).1 < rs.length)∧placesB (reqLoad (rs.getD (ss.getD j dStop).1.toNat dReq))=true∧ss.getD j dStop ∉ ss.take j∧((ss.getD j dStop).2=true→((ss.getD j dStop).1,false) ∈ ss.drop (j+1)):=Iff.rfl
  simp only [e1,w2,Int.toNat_natCast,mget_keys,mset_keys]
  dsimp only [dStop] at hR hd
  have he:((ss.getD j (0,false)).1,(ss.getD j (0,false)).2)=ss.getD j (0,false):=rfl
  rw [he]
  generalize ss.getD j (0,false)=s at hR hd he ⊢
  obtain ⟨k,p⟩:=s
  dsimp only at hR hd ⊢
  generalize placesB (reqLoad (rs.getD k.toNat dReq))=pb at hR ⊢
  refine ⟨fun _=>⟨by omega,⟨fun q=>⟨q,by omega⟩,fun q=>⟨q,fun z=>⟨q,z⟩⟩⟩,fun q=>no fun z=>?_,fun q=>⟨fun z=>?_,fun z=>?_⟩⟩,fun q=>by omega⟩
  ·have z:=hR.1 z
   rcases q with ((q | q) | q) | q
   ·omega
   ·rw [q] at z;cases z.2.1
   ·exact z.2.2.1 q
   ·have:=(hks k).2 (z.2.2.2 q.1)
    have q2:=q.2
    simp only [decide_eq_false_iff_not] at q2
    exact q2 this
  ·refine ⟨(j,kset ks k),Nat.lt_succ_self _,⟨by dsimp only;omega,fun x=>?_,yes (hR.2 ⟨q.1.1.1,q.1.1.2,q.1.2,fun y=>by rw [z] at y;cases y⟩)⟩,rfl,rfl⟩
   dsimp only
   rw [mem_kset,hks,hd,List.mem_cons,z,Prod.mk.injEq,or_comm]
   simp
  ·refine ⟨(j,ks),Nat.lt_succ_self _,⟨by dsimp only;omega,fun x=>?_,yes (hR.2 ⟨q.1.1.1,q.1.1.2,q.1.2,fun y=>?_⟩)⟩,rfl,rfl⟩
   ·dsimp only
    rw [hks,hd,List.mem_cons,z,Prod.mk.injEq]
    simp
   ·have:=q.2 z
    rw [decide_eq_true_iff] at this
    exact (hks k).1 this
end T
end Go.Proofs.YtecdcopihghnaaaGreat
end
section
namespace Go.Proofs.YtecdcopihghnaaaGreat
set_option linter.unusedVariables false
set_option linter.unusedSimpArgs false
open Go.RowKit Go.IntWalk
namespace T
def entAsk:Ent:=⟨42,.cons (.st (.cons (.int .i64) (.cons (.sl (.st (.cons (.int .i64) (.cons (.int .i64) (.cons (.sl (.int .i64)) (.sl (.int .i64))))))) (.cons (.sl (.st (.cons (.int .i64) (.cons (.int .i64) (.cons (.int .i64) (.cons (.int .i64) (.cons (.int .i64) (.cons (.int .i64) (.cons (.int .i64) (.cons (.int .i64) (.int .i64))))))))))) (.cons (.sl (.st (.cons (.int .i64) (.cons (.int .i64) (.cons (.int .i64) (.cons (.int .i64) (.cons (.int .i64) (.cons (.int .i64) (.cons (.int .i64) (.cons (.int .i64) (.cons (.int .i64) (.int .i64)))))))))))) (.cons (.sl (.st (.cons (.int .i64) (.cons (.int .i64) .bool)))) (.st (.cons (.int .i64) (.cons (.int .i64) (.int .i64)))))))))) (.cons (.int .i64) (.cons (.sl (.st (.cons (.int .i64) .bool))) .nil)),.bool,false,none,fun _=>True,fun x=>asksF x.1 x.2.1 x.2.2.1⟩
def csAs:List Ent:=[entPlR,entPin,entRightS] theorem hcsAs (f:FuncId):findEnt csAs f=findEnt [entPlR,entPin,entRightS] f:=rfl
set_option maxHeartbeats 4000000 in
theorem conAsk:Con Tryz.prog entAsk:=by
 refine con_is (C:=csAs) x42 (by kernel_rfl) (by simp [csAs,conPlR,conPin,conRightS]) fun x hx hf=>?_
 obtain ⟨⟨(N:Int),(A:List DArc),(C:List DCar),(Q:List DReq),(P:List DPair),(S1:Int),(S2:Int),(S3:Int)⟩,(c:Int),(ss:List DStop),_⟩:=x
 cases hw:rightP (N,A,C,Q,P,S1,S2,S3) with
 | false =>
  have hz:asksF (N,A,C,Q,P,S1,S2,S3) c ss=false:=by unfold asksF;rw [hw];rfl
  dsimp only [entAsk,x42];simp only [↓hcsAs,entPlR,entPin,entRightS,undef,hw,hz,go_sem,Nat.reduceAdd,Nat.reduceSub,Nat.reduceMul,Nat.reduceLT,Nat.reduceLeDiff,Nat.reduceEqDiff,Nat.reduceBEq,Nat.reduceBNe,List.reduceReplicate,reduceIte,reduceCtorEq,↓reduceIte]
  try simp only [hw,hz,td,reduceCtorEq]
 | true =>
  have hcl:C.length≤600:=(rightP_iff.1 hw).2.1.1
  have w:IntKind.i64.wrap ((C.length:Int) - 1)=(C.length:Int) - 1:=i64_in _ (by omega)
  have hz:asksF (N,A,C,Q,P,S1,S2,S3) c ss=(allIn ((C.length:Int) - 1) [c] && rightS ss Q):=by
   unfold asksF allIn
   rw [hw,Bool.true_and]
   congr 1
   rw [Bool.eq_iff_iff]
   simp
   try omega
  cases h1:allIn ((C.length:Int) - 1) [c] with
  | false =>
   rw [h1] at hz
   dsimp only [entAsk,x42];simp only [↓hcsAs,entPlR,entPin,entRightS,undef,hw,hz,w,h1,go_sem,Nat.reduceAdd,Nat.reduceSub,Nat.reduceMul,Nat.reduceLT,Nat.reduceLeDiff,Nat.reduceEqDiff,Nat.reduceBEq,Nat.reduceBNe,List.reduceReplicate,reduceIte,reduceCtorEq,↓reduceIte]
   try simp only [hw,hz,w,h1,td,reduceCtorEq]
  | true =>
   rw [h1] at hz
   dsimp only [entAsk,x42];simp only [↓hcsAs,entPlR,entPin,entRightS,undef,hw,hz,w,h1,go_sem,Nat.reduceAdd,Nat.reduceSub,Nat.reduceMul,Nat.reduceLT,Nat.reduceLeDiff,Nat.reduceEqDiff,Nat.reduceBEq,Nat.reduceBNe,List.reduceReplicate,reduceIte,reduceCtorEq,↓reduceIte]
   try simp only [hw,hz,w,h1,td,reduceCtorEq]
def entCh1:Ent:=⟨44,.cons (.st (.cons (.int .i64) (.cons (.int .i64) (.int .i64)))) (.cons (.st (.cons (.int .i64) (.cons (.int .i64) (.int .i64)))) .nil),(.int .i64),false,none,fun _=>True,fun x=>IntKind.i64.wrap ((x.1:DRide).1 - (x.2.1:DRide).1)⟩
def csCh1:List Ent:=[] theorem hcsCh1 (f:FuncId):findEnt csCh1 f=findEnt [] f:=rfl
theorem conCh1:Con Tryz.prog entCh1:=by
 refine con_is (C:=csCh1) x44 (by kernel_rfl) (by simp [csCh1]) fun x hx hf=>?_
 obtain ⟨⟨(a:Int),(b:Int),(d:Int)⟩,⟨(a':Int),(b':Int),(d':Int)⟩,_⟩:=x
 dsimp only [entCh1,x44];simp only [↓hcsCh1,go_sem,Nat.reduceAdd,Nat.reduceSub,Nat.reduceMul,Nat.reduceLT,Nat.reduceLeDiff,Nat.reduceEqDiff,Nat.reduceBEq,Nat.reduceBNe,List.reduceReplicate,reduceIte,reduceCtorEq,↓reduceIte];try simp only [td,reduceCtorEq]
def entCh2:Ent:=⟨45,.cons (.int .i64) (.cons (.ptr (.st (.cons (.int .i64) (.cons (.int .i64) (.cons (.int .i64) (.cons (.int .i64) (.cons (.int .i64) (.cons (.int .i64) (.cons (.int .i64) (.cons (.int .i64) (.int .i64))))))))))) (.cons (.ptr (.st (.cons (.int .i64) (.cons (.sl (.st (.cons (.int .i64) (.cons (.int .i64) (.cons (.sl (.int .i64)) (.sl (.int .i64))))))) (.cons (.sl (.st (.cons (.int .i64) (.cons (.int .i64) (.cons (.int .i64) (.cons (.int .i64) (.cons (.int .i64) (.cons (.int .i64) (.cons (.int .i64) (.cons (.int .i64) (.int .i64))))))))))) (.cons (.sl (.st (.cons (.int .i64) (.cons (.int .i64) (.cons (.int .i64) (.cons (.int .i64) (.cons (.int .i64) (.cons (.int .i64) (.cons (.int .i64) (.cons (.int .i64) (.cons (.int .i64) (.int .i64)))))))))))) (.cons (.sl (.st (.cons (.int .i64) (.cons (.int .i64) .bool)))) (.st (.cons (.int .i64) (.cons (.int .i64) (.int .i64))))))))))) (.cons (.ptr (.sl (.st (.cons (.int .i64) .bool)))) .nil))),(.int .i64),false,none,fun x=>(0≤(x.1:Int)∧(x.1:Int)≤(x.2.2.2.1:List DStop).length)∧RightS x.2.2.2.1 (x.2.2.1:DWorld).2.2.2.1,fun x=>if (x.1:Int)=0 then (x.2.1:DCar).2.1 else if ((x.2.2.2.1:List DStop).getD ((x.1:Int) - 1).toNat dStop).2=true then (reqAt x.2.2.1 ((x.2.2.2.1:List DStop).getD ((x.1:Int) - 1).toNat dStop).1).2.1 else (reqAt x.2.2.1 ((x.2.2.2.1:List DStop).getD ((x.1:Int) - 1).toNat dStop).1).2.2.1⟩
def csCh2:List Ent:=[] theorem hcsCh2 (f:FuncId):findEnt csCh2 f=findEnt [] f:=rfl
theorem conCh2:Con Tryz.prog entCh2:=by
 refine con_is (C:=csCh2) x45 (by kernel_rfl) (by simp [csCh2]) fun x hx hf=>?_
 obtain ⟨(k:Int),⟨(o:Int),(n:Int),(r:Int),(e:Int),(s:Int),(c:Int),(b:Int),(g:Int),(f:Int)⟩,⟨(N:Int),(A:List DArc),(C:List DCar),(Q:List DReq),(P:List DPair),(S1:Int),(S2:Int),(S3:Int)⟩,(ss:List DStop),_⟩:=x
 obtain ⟨⟨h1,h2⟩,h3⟩:=hx
 replace h1:0≤k:=h1
 replace h2:k≤(ss.length:Int):=h2
 replace h3:RightS ss Q:=h3
 by_cases hk:k=0
 ·subst hk
  dsimp only [entCh2,x45];simp only [↓hcsCh2,go_sem,Nat.reduceAdd,Nat.reduceSub,Nat.reduceMul,Nat.reduceLT,Nat.reduceLeDiff,Nat.reduceEqDiff,Nat.reduceBEq,Nat.reduceBNe,List.reduceReplicate,reduceIte,reduceCtorEq,↓reduceIte];try simp only [td,reduceCtorEq]
 obtain ⟨k,rfl⟩:∃ z:Nat,k=((z+1:Nat):Int):=⟨k.toNat - 1,by omega⟩
 have hkl:k < ss.length:=by omega
 have w:IntKind.i64.wrap (((k+1:Nat):Int) - 1)=(k:Int):=(i64_in _ (by have:=h3.1.1;omega)).trans (by omega)
 have w':(((k+1:Nat):Int) - 1).toNat=k:=by omega
 have hq:=(h3.2 k hkl).1
 generalize hS:ss.getD k dStop=st at hq
 have hS':ss.getD k (0,false)=st:=hS
 obtain ⟨r',p⟩:=st
 dsimp only at hq
 obtain ⟨r',rfl⟩:∃ z:Nat,r' = z:=⟨r'.toNat,by omega⟩
 have hql:r' < Q.length:=by omega
 dsimp only [entCh2,x45];simp only [↓hcsCh2,hk,w,w',hkl,hS',hql,Int.toNat_natCast,go_sem,Nat.reduceAdd,Nat.reduceSub,Nat.reduceMul,Nat.reduceLT,Nat.reduceLeDiff,Nat.reduceEqDiff,Nat.reduceBEq,Nat.reduceBNe,List.reduceReplicate,reduceIte,reduceCtorEq,↓reduceIte]
 try simp only [hk,w,w',hkl,hS',hql,Int.toNat_natCast,td,reduceCtorEq]
 exact ⟨fun h=>by rw [if_pos h];rfl,fun h=>by rw [if_neg (by rw [h];simp)];rfl⟩
end T
end Go.Proofs.YtecdcopihghnaaaGreat
end
section
namespace Go.Proofs.YtecdcopihghnaaaGreat
set_option linter.unusedVariables false
set_option linter.unusedSimpArgs false
open Go.RowKit Go.IntWalk
namespace T
theorem mget_mset' {α:Type} {z:α}:∀ {H:List (Int × α)} {i j:Int} {v:α},mget z (mset H i v) j=if i=j then v else mget z H j
 | [],i,j,v=>rfl
 | p :: r,i,j,v=>by
  unfold mset
  by_cases c:p.1=i
  ·rw [if_pos c]
   unfold mget
   by_cases c2:i=j
   ·rw [if_pos c2,if_pos c2]
   ·rw [if_neg c2,if_neg c2,if_neg (by rw [c];exact c2)]
  ·rw [if_neg c]
   unfold mget
   rw [mget_mset']
   by_cases c2:p.1=j
   ·rw [if_pos c2,if_pos c2,if_neg (by rw [← c2];exact fun e=>c e.symm)]
   ·rw [if_neg c2,if_neg c2]
theorem mhas_mset {α:Type}:∀ {H:List (Int × α)} {i j:Int} {v:α},mhas (mset H i v) j=if i=j then true else mhas H j
 | [],i,j,v=>rfl
 | p :: r,i,j,v=>by
  unfold mset
  by_cases c:p.1=i
  ·rw [if_pos c]
   unfold mhas
   by_cases c2:i=j
   ·rw [if_pos c2,if_pos c2]
   ·rw [if_neg c2,if_neg c2,if_neg (by rw [c];exact c2)]
  ·rw [if_neg c]
   unfold mhas
   rw [mhas_mset]
   by_cases c2:p.1=j
   ·rw [if_pos c2,if_pos c2,if_neg (by rw [← c2];exact fun e=>c e.symm)]
   ·rw [if_neg c2,if_neg c2]
def pickM (ss:List DStop) (j:Nat) (H:List (Int × Int)):Prop:=∀ r:Int,mhas H r=decide ((r,true) ∈ ss.take j)∧((r,true) ∈ ss.take j→mget 0 H r=atF (r,true) ss+1)
theorem pickM_pick {ss:List DStop} {rs:List DReq} (h:RightS ss rs) {j:Nat} (hj:j < ss.length) {H:List (Int × Int)} (hH:pickM ss j H) {r:Int} (e:ss.getD j dStop=(r,true)):pickM ss (j+1) (mset H r ((j+1:Nat):Int)):=by
 intro i
 rw [mhas_mset,mget_mset',take_next hj,e]
 have hat:=h.at_eq hj
 rw [e] at hat
 by_cases c:r=i
 ·subst c
  rw [if_pos rfl,if_pos rfl]
  refine ⟨(decide_eq_true (by simp)).symm,fun _=>?_⟩
  rw [hat];omega
 ·rw [if_neg c,if_neg c]
  have hm:(i,true) ∈ ss.take j ++ [(r,true)] ↔ (i,true) ∈ ss.take j:=by
   simp only [List.mem_append,List.mem_singleton,Prod.mk.injEq,and_true]
   exact ⟨fun h=>h.resolve_right fun h=>c h.symm,.inl⟩
  refine ⟨(hH i).1.trans (decide_eq_decide.2 hm.symm),fun h=>(hH i).2 (hm.1 h)⟩
theorem pickM_drop {ss:List DStop} {j:Nat} (hj:j < ss.length) {H:List (Int × Int)} (hH:pickM ss j H) {r:Int} (e:ss.getD j dStop=(r,false)):pickM ss (j+1) H:=by
 intro i
 rw [take_next hj,e]
 have hm:(i,true) ∈ ss.take j ++ [(r,false)] ↔ (i,true) ∈ ss.take j:=by simp
 exact ⟨(hH i).1.trans (decide_eq_decide.2 hm.symm),fun h=>(hH i).2 (hm.1 h)⟩
theorem range_map_s {α:Type} (f:Nat→α) (j:Nat):(List.range j).map f ++ [f j]=(List.range (j+1)).map f:=by
 rw [List.range_succ,List.map_append];rfl
theorem ridesP_no {w:DWorld} {ss:List DStop} {j:Nat} (h:dropB ss j=false):ridesP w ss j=ridesP w ss (j+1):=by
 unfold ridesP
 rw [List.range_succ,List.filter_append,List.filter_cons_of_neg (by rw [h];simp),List.filter_nil,List.append_nil]
theorem ridesP_yes {w:DWorld} {ss:List DStop} {j:Nat} (h:dropB ss j=true):ridesP w ss j ++ [rideP w ss j]=ridesP w ss (j+1):=by
 unfold ridesP
 rw [List.range_succ,List.filter_append,List.filter_cons_of_pos h,List.map_append];rfl
theorem ridesP_le (w:DWorld) (ss:List DStop) (j:Nat):(ridesP w ss j).length≤j:=by
 unfold ridesP
 rw [List.length_map]
 exact Nat.le_trans (List.length_filter_le _ _) (by rw [List.length_range];omega)
theorem badW_all {w:DWorld} {c:Int} {ss:List DStop} {j:Nat} (h:∀ k,k≤j→badW w c ss k=false) (h1:badW w c ss (j+1)=false):∀ k,k≤j+1→badW w c ss k=false:=fun k hk=>by
 rcases Nat.lt_or_ge k (j+1) with c | c
 ·exact h k (by omega)
 ·rw [show k=j+1 by omega];exact h1
theorem chain_bad {w:DWorld} {c:Int} {ss:List DStop} (ha:asksF w c ss=true) {j:Nat} (hj:j≤ss.length) (h:badW w c ss j=true):chainF w c ss=(([],[],[]),20):=by
 unfold chainF
 rw [if_neg (by rw [ha];simp),if_pos (List.any_eq_true.2 ⟨j,List.mem_range.2 (by omega),h⟩)];rfl
theorem rides_12 {w:DWorld} {ss:List DStop} (h:RightS ss w.2.2.2.1) (hn:ss.length≤24):(ridesP w ss ss.length).length≤12:=by
 have h1:=(rides_perm (w:=w) h).length_eq
 have h2:(ridesP w ss ss.length).length+(ridesR w ss ss.length).length≤ss.length:=by
  unfold ridesP ridesR
  rw [List.length_map,List.length_map]
  have:∀ l:List Nat,(l.filter (dropB ss)).length+(l.filter fun k=>(ss.getD k dStop).2).length≤l.length:=by
   intro l
   induction l with
   | nil=>exact Nat.le_refl _
   | cons k l ih =>
    rw [List.filter_cons,List.filter_cons,List.length_cons]
    cases hd:(ss.getD k dStop).2 with
    | true =>
     rw [if_neg (by unfold dropB;rw [hd];simp),if_pos rfl,List.length_cons];omega
    | false =>
     rw [if_neg (by simp:¬ false=true)]
     split
     ·rw [List.length_cons];omega
     ·omega
  have:=this (List.range ss.length)
  rwa [List.length_range] at this
 omega
theorem ridesR_rng (w:DWorld) (ss:List DStop) (j:Nat):∀ x ∈ ridesR w ss j,0≤x.1∧x.1≤j:=by
 intro x hx
 unfold ridesR at hx
 obtain ⟨k,hk,rfl⟩:=List.mem_map.1 hx
 have:=List.mem_range.1 (List.mem_filter.1 hk).1
 unfold rideR
 dsimp only
 omega
@[reducible] def dRd:DRide:=(0,0,0)
def swapR (L:List DRide) (j:Nat):List DRide:=(L.set j (L.getD (j - 1) dRd)).set (j - 1) (L.getD j dRd)
theorem swapR_perm {L:List DRide} {j:Nat} (hj:j < L.length):(swapR L j).Perm L:=by
 have e1:L.getD j dRd=L[j]:=by rw [List.getD_eq_getElem?_getD,List.getElem?_eq_getElem hj];rfl
 have e2:L.getD (j - 1) dRd=L[j - 1]:=by rw [List.getD_eq_getElem?_getD,List.getElem?_eq_getElem (by omega)];rfl
 unfold swapR
 rw [e1,e2]
 exact List.set_set_perm hj (by omega)
theorem swapR_at {L:List DRide} {j:Nat} (h0:0 < j) (hj:j < L.length) (k:Nat):(swapR L j).getD k dRd=if k=j then L.getD (j - 1) dRd else if k=j - 1 then L.getD j dRd else L.getD k dRd:=by
 unfold swapR
 simp only [List.getD_eq_getElem?_getD,List.getElem?_set]
 by_cases c1:k=j
 ·subst c1
  rw [if_neg (by omega),if_pos rfl,if_pos rfl,if_pos hj];rfl
 ·rw [if_neg c1]
  by_cases c2:k=j - 1
  ·subst c2
   rw [if_pos rfl,if_pos rfl,if_pos (by rw [List.length_set];omega)];rfl
  ·rw [if_neg (fun h=>c2 h.symm),if_neg (fun h=>c1 h.symm),if_neg c2]
def almost (L:List DRide) (i j:Nat):Prop:=∀ a b:Nat,a < b→b≤i→b≠j→(L.getD a dRd).1≤(L.getD b dRd).1
def sortedTo (L:List DRide) (i:Nat):Prop:=∀ a b:Nat,a < b→b < i→(L.getD a dRd).1≤(L.getD b dRd).1
theorem almost_start {L:List DRide} {i:Nat} (h:sortedTo L i):almost L i i:=fun a b h1 h2 h3=>h a b h1 (by omega)
theorem almost_step {L:List DRide} {i j:Nat} (h:almost L i j) (h0:0 < j) (hj:j < L.length) (hji:j≤i) (hc:(L.getD j dRd).1 < (L.getD (j - 1) dRd).1):almost (swapR L j) i (j - 1):=by
 intro a b h1 h2 h3
 rw [swapR_at h0 hj,swapR_at h0 hj]
 by_cases c1:b=j
 ·subst c1
  rw [if_pos rfl,if_neg (show ¬ a=b by omega)]
  by_cases c2:a=b - 1
  ·rw [if_pos c2];omega
  ·rw [if_neg c2];exact h a (b - 1) (by omega) (by omega) (by omega)
 ·rw [if_neg c1,if_neg h3]
  by_cases c2:a=j
  ·rw [if_pos c2];exact h (j - 1) b (by omega) h2 c1
  ·rw [if_neg c2]
   by_cases c3:a=j - 1
   ·rw [if_pos c3]
    exact h j b (by omega) h2 c1
   ·rw [if_neg c3];exact h a b h1 h2 c1
theorem almost_done {L:List DRide} {i j:Nat} (h:almost L i j) (hji:j≤i) (hc:j=0∨(L.getD (j - 1) dRd).1≤(L.getD j dRd).1):sortedTo L (i+1):=by
 intro a b h1 h2
 by_cases c:b=j
 ·subst c
  rcases hc with hc | hc
  ·omega
  ·by_cases c2:a=b - 1
   ·subst c2;exact hc
   ·exact Int.le_trans (h a (b - 1) (by omega) (by omega) (by omega)) hc
 ·exact h a b h1 (by omega) c
theorem sortedTo_pairwise {L:List DRide} {i:Nat} (h:sortedTo L i) (hi:L.length≤i):L.Pairwise fun x y=>x.1≤y.1:=by
 rw [List.pairwise_iff_getElem]
 intro a b ha hb hab
 have:=h a b hab (by omega)
 rw [List.getD_eq_getElem?_getD,List.getD_eq_getElem?_getD,List.getElem?_eq_getElem ha,List.getElem?_eq_getElem hb] at this
 exact this
def entChn:Ent:=⟨13,.cons (.st (.cons (.int .i64) (.cons (.sl (.st (.cons (.int .i64) (.cons (.int .i64) (.cons (.sl (.int .i64)) (.sl (.int .i64))))))) (.cons (.sl (.st (.cons (.int .i64) (.cons (.int .i64) (.cons (.int .i64) (.cons (.int .i64) (.cons (.int .i64) (.cons (.int .i64) (.cons (.int .i64) (.cons (.int .i64) (.int .i64))))))))))) (.cons (.sl (.st (.cons (.int .i64) (.cons (.int .i64) (.cons (.int .i64) (.cons (.int .i64) (.cons (.int .i64) (.cons (.int .i64) (.cons (.int .i64) (.cons (.int .i64) (.cons (.int .i64) (.int .i64)))))))))))) (.cons (.sl (.st (.cons (.int .i64) (.cons (.int .i64) .bool)))) (.st (.cons (.int .i64) (.cons (.int .i64) (.int .i64)))))))))) (.cons (.int .i64) (.cons (.sl (.st (.cons (.int .i64) .bool))) .nil)),.cons (.st (.cons (.sl (.st (.cons (.int .i64) (.int .i64)))) (.cons (.sl (.st (.cons (.int .i64) (.int .i64)))) (.sl (.st (.cons (.int .i64) (.cons (.int .i64) (.int .i64)))))))) (.cons (.int .i64) .nil),true,none,fun x=>(x.2.2.1:List DStop).length≤24,fun x=>((chainF x.1 x.2.1 x.2.2.1).1,(chainF x.1 x.2.1 x.2.2.1).2,())⟩
def csChn:List Ent:=[entAsk,entLg20,entCh1,entCh2,entBLen] theorem hcsChn (f:FuncId):findEnt csChn f=findEnt [entAsk,entLg20,entCh1,entCh2,entBLen] f:=rfl
set_option maxRecDepth 10000 in
set_option maxHeartbeats 4000000 in
theorem conChn:Con Tryz.prog entChn:=by
 refine con_is (C:=csChn) x13 (by kernel_rfl) (by simp [csChn,conAsk,conLg20,conCh1,conCh2,conBLen]) fun x hx hf=>?_
 obtain ⟨⟨(N:Int),(A:List DArc),(C:List DCar),(Q:List DReq),(P:List DPair),(S1:Int),(S2:Int),(S3:Int)⟩,(c:Int),(ss:List DStop),_⟩:=x
 replace hx:ss.length≤24:=hx
 cases ha:asksF (N,A,C,Q,P,S1,S2,S3) c ss with
 | false =>
  have hz:chainF (N,A,C,Q,P,S1,S2,S3) c ss=(([],[],[]),1):=by unfold chainF;rw [if_pos ha];rfl
  dsimp only [entChn,x13];simp only [↓hcsChn,entAsk,entLg20,entCh1,entCh2,entBLen,ha,hz,go_sem,Nat.reduceAdd,Nat.reduceSub,Nat.reduceMul,Nat.reduceLT,Nat.reduceLeDiff,Nat.reduceEqDiff,Nat.reduceBEq,Nat.reduceBNe,List.reduceReplicate,reduceIte,reduceCtorEq,↓reduceIte]
  try simp only [ha,hz,td,reduceCtorEq]
 | true =>
  obtain ⟨hw,hc,hss⟩:=asks_iff.1 ha
  dsimp only at hc hss
  obtain ⟨c,rfl⟩:∃ z:Nat,c=z:=⟨c.toNat,by omega⟩
  have hcl:c < C.length:=by omega
  have hcar:=carT (car_in ha)
  have hca:carAt (N,A,C,Q,P,S1,S2,S3) (c:Int)=C.getD c (0,0,0,0,0,0,0,0,0):=rfl
  rw [hca] at hcar
  generalize hK:C.getD c (0,0,0,0,0,0,0,0,0)=car at hcar hca
  obtain ⟨k1,k2,k3,k4,k5,k6,k7,k8,k9⟩:=car
  dsimp only at hcar
  dsimp only [entChn,x13];simp only [↓hcsChn,entAsk,entLg20,entCh1,entCh2,entBLen,ha,hcl,hK,Int.toNat_natCast,go_sem,Nat.reduceAdd,Nat.reduceSub,Nat.reduceMul,Nat.reduceLT,Nat.reduceLeDiff,Nat.reduceEqDiff,Nat.reduceBEq,Nat.reduceBNe,List.reduceReplicate,reduceIte,reduceCtorEq,↓reduceIte]
  try simp only [ha,hcl,hK,Int.toNat_natCast,td,reduceCtorEq]
  refine XW_nilb 23 1 72 (.st (.cons (.int .i64) (.int .i64))) rfl rfl ?_
  refine XW_nilb 23 2 102 (.st (.cons (.int .i64) (.cons (.int .i64) (.int .i64)))) rfl rfl ?_
  refine XW_for 1000 x13_0d [0,1,2,14] (Nat × List (Int × Int)) (fun s=>[(42,.val (.int .i64) (s.1:Int))])
   (fun s=>[(25,.mp .i64 (.int .i64) s.2),(23,.box 46 [.own 21,.own 30,.own 32]),(21,.row 70 (.st (.cons (.int .i64) (.int .i64))) ((List.range (s.1+1)).map (winF (N,A,C,Q,P,S1,S2,S3) c ss))),
    (30,.row 72 (.st (.cons (.int .i64) (.int .i64))) []),(32,.row 102 (.st (.cons (.int .i64) (.cons (.int .i64) (.int .i64)))) (ridesP (N,A,C,Q,P,S1,S2,S3) ss s.1))])
   (fun s=>s.1≤ss.length∧pickM ss s.1 s.2∧∀ k,k≤s.1→badW (N,A,C,Q,P,S1,S2,S3) c ss k=false) (fun s=>ss.length - s.1) (0,[]) ?_ ?_ ?_
  ·dsimp only [x13_0d];simp only [go_sem,Nat.reduceAdd,Nat.reduceSub,Nat.reduceMul,Nat.reduceLT,Nat.reduceLeDiff,Nat.reduceEqDiff,Nat.reduceBEq,Nat.reduceBNe,List.reduceReplicate,reduceIte,reduceCtorEq,↓reduceIte];try trivial
   refine ⟨rfl,?_,rfl⟩
   show [(k3,k4)]=[((carAt (N,A,C,Q,P,S1,S2,S3) (c:Int)).2.2.1,(carAt (N,A,C,Q,P,S1,S2,S3) (c:Int)).2.2.2.1)]
   rw [hca]
  ·refine ⟨Nat.zero_le _,fun r=>⟨rfl,fun h=>?_⟩,fun k hk=>?_⟩
   ·simp at h
   ·have hk0:k=0:=by simpa using hk
    subst hk0
    unfold badW
    rw [decide_eq_false]
    have:=(carT (car_in ha)).2.2.2
    show ¬ (carAt (N,A,C,Q,P,S1,S2,S3) (c:Int)).2.2.1 > (carAt (N,A,C,Q,P,S1,S2,S3) (c:Int)).2.2.2.1
    omega
  ·rintro ⟨j,H⟩ ⟨hj,hH,hB⟩
   dsimp only at hj hH hB
   by_cases hjl:j < ss.length
   ·
    have w2:IntKind.i64.wrap ((j:Int)+1)=((j+1:Nat):Int):=i64_in _ (by have:=hss.1.1;omega)
    have hq:=(hss.2 j hjl).1
    have hwin:=winF_s (N,A,C,Q,P,S1,S2,S3) (c:Int) ss j
    have hcb:=chain_bad (j:=j+1) ha (by omega)
    have hnx:=badW_all hB
    have hpp:=fun {r:Int}=>pickM_pick (r:=r) hss hjl hH
    have hpd:=fun {r:Int}=>pickM_drop (r:=r) hjl hH
    have hry:=ridesP_yes (w:=(N,A,C,Q,P,S1,S2,S3)) (ss:=ss) (j:=j)
    have hrn:=ridesP_no (w:=(N,A,C,Q,P,S1,S2,S3)) (ss:=ss) (j:=j)
    have hrl:=ridesP_le (N,A,C,Q,P,S1,S2,S3) ss j
    have hll:((List.range (j+1)).map (winF (N,A,C,Q,P,S1,S2,S3) (c:Int) ss)).length=j+1:=by rw [List.length_map,List.length_range]
    have hms:=range_map_s (winF (N,A,C,Q,P,S1,S2,S3) (c:Int) ss) (j+1)
    have hbw:badW (N,A,C,Q,P,S1,S2,S3) (c:Int) ss (j+1)=decide ((winF (N,A,C,Q,P,S1,S2,S3) (c:Int) ss (j+1)).1 > (winF (N,A,C,Q,P,S1,S2,S3) (c:Int) ss (j+1)).2):=rfl
    unfold rideP dropB at *
    rw [hca] at hwin
    dsimp only at hwin
    generalize hS:ss.getD j dStop=st at *
    have hS':ss.getD j (0,false)=st:=hS
    obtain ⟨r,p⟩:=st
    dsimp only at hq hwin hry hrn
    have hH':=hH r
    have e1:reqAt (N,A,C,Q,P,S1,S2,S3) r=Q.getD r.toNat dReq:=rfl
    rw [e1] at hwin hry
    obtain ⟨r,rfl⟩:∃ z:Nat,r=z:=⟨r.toNat,by omega⟩
    rw [Int.toNat_natCast] at hwin hry
    have hql:r < Q.length:=by omega
    generalize hQ:Q.getD r dReq=q at *
    have hQ':Q.getD r (0,0,0,0,0,0,0,0,0,0)=q:=hQ
    obtain ⟨q1,q2,q3,q4,q5,q6,q7,q8⟩:=q
    dsimp only at hwin hry
    have goal:∀ (x y:Int) (H':List (Int × Int)),winF (N,A,C,Q,P,S1,S2,S3) (c:Int) ss (j+1)=(x,y)→¬ x > y→pickM ss (j+1) H' →
      ss.length - (j+1) < ss.length - j∧(j+1≤ss.length∧pickM ss (j+1) H'∧∀ k,k≤j+1→badW (N,A,C,Q,P,S1,S2,S3) (c:Int) ss k=false)∧(List.range (j+1)).map (winF (N,A,C,Q,P,S1,S2,S3) (c:Int) ss) ++ [(x,y)]=(List.range (j+1+1)).map (winF (N,A,C,Q,P,S1,S2,S3) (c:Int) ss):=fun x y H' hw1 h1 h2 =>
     ⟨by omega,⟨by omega,h2,hnx (by rw [hbw,hw1];exact decide_eq_false h1)⟩,by rw [← hms,hw1]⟩
    cases p with
    | true =>
     rw [if_pos rfl] at hwin
     replace hrn:=hrn rfl
     dsimp only [x13_0,x13_0d];simp only [↓hcsChn,entAsk,entLg20,entCh1,entCh2,entBLen,hK,hjl,hS',hql,hQ',w2,hll,Int.toNat_natCast,go_sem,Nat.reduceAdd,Nat.reduceSub,Nat.reduceMul,Nat.reduceLT,Nat.reduceLeDiff,Nat.reduceEqDiff,Nat.reduceBEq,Nat.reduceBNe,List.reduceReplicate,reduceIte,reduceCtorEq,↓reduceIte]
     simp only [hjl,hK,w2,hS',hQ',hll,hql,Int.toNat_natCast,td,reduceCtorEq]
     have:=hss.1.1
     refine ⟨fun h=>?_,fun h=>⟨by omega,(j+1,mset H (r:Int) ((j+1:Nat):Int)),?_⟩⟩
     ·rw [hcb (by rw [hbw,hwin];exact decide_eq_true h)]
     ·obtain ⟨g1,g2,g3⟩:=goal _ _ _ hwin (Int.not_lt.2 h) (hpp rfl)
      exact ⟨g1,g2,rfl,rfl,g3,hrn⟩
    | false =>
     rw [if_neg (by simp)] at hwin
     by_cases hm:((r:Int),true) ∈ ss.take j
     ·rw [if_pos hm] at hwin
      have h7:=hH'.2 hm
      replace hH':=hH'.1
      rw [decide_eq_true hm] at hH'
      replace hry:=hry (by rw [decide_eq_true hm];rfl)
      dsimp only [x13_0,x13_0d];simp only [↓hcsChn,entAsk,entLg20,entCh1,entCh2,entBLen,hK,hjl,hS',hql,hQ',w2,hll,hH',h7,Int.toNat_natCast,go_sem,Nat.reduceAdd,Nat.reduceSub,Nat.reduceMul,Nat.reduceLT,Nat.reduceLeDiff,Nat.reduceEqDiff,Nat.reduceBEq,Nat.reduceBNe,List.reduceReplicate,reduceIte,reduceCtorEq,↓reduceIte]
      simp only [hjl,hK,w2,hS',hQ',hll,hql,hH',h7,Int.toNat_natCast,td,reduceCtorEq]
      have:=hss.1.1
      refine ⟨by omega,fun h=>?_,fun h=>⟨by omega,(j+1,H),?_⟩⟩
      ·rw [hcb (by rw [hbw,hwin];exact decide_eq_true h)]
      ·obtain ⟨g1,g2,g3⟩:=goal _ _ _ hwin (Int.not_lt.2 h) (hpd rfl)
       exact ⟨g1,g2,rfl,rfl,g3,hry⟩
     ·rw [if_neg hm] at hwin
      replace hH':=hH'.1
      rw [decide_eq_false hm] at hH'
      replace hrn:=hrn (by rw [decide_eq_false hm];rfl)
      dsimp only [x13_0,x13_0d];simp only [↓hcsChn,entAsk,entLg20,entCh1,entCh2,entBLen,hK,hjl,hS',hql,hQ',w2,hll,hH',Int.toNat_natCast,go_sem,Nat.reduceAdd,Nat.reduceSub,Nat.reduceMul,Nat.reduceLT,Nat.reduceLeDiff,Nat.reduceEqDiff,Nat.reduceBEq,Nat.reduceBNe,List.reduceReplicate,reduceIte,reduceCtorEq,↓reduceIte]
      simp only [hjl,hK,w2,hS',hQ',hll,hql,hH',Int.toNat_natCast,td,reduceCtorEq]
      have:=hss.1.1
      refine ⟨fun h=>?_,fun h=>⟨by omega,(j+1,H),?_⟩⟩
      ·rw [hcb (by rw [hbw,hwin];exact decide_eq_true h)]
      ·obtain ⟨g1,g2,g3⟩:=goal _ _ _ hwin (Int.not_lt.2 h) (hpd rfl)
       exact ⟨g1,g2,rfl,rfl,g3,hrn⟩
   ·have hj2:j=ss.length:=by omega
    subst hj2
    have h12:=rides_12 (w:=(N,A,C,Q,P,S1,S2,S3)) hss hx
    have hRm:∀ x ∈ ridesP (N,A,C,Q,P,S1,S2,S3) ss ss.length,0≤x.1∧x.1≤ss.length:=fun x h=>ridesR_rng _ _ _ x ((rides_perm (w:=(N,A,C,Q,P,S1,S2,S3)) hss).mem_iff.1 h)
    have hRp:=rides_perm (w:=(N,A,C,Q,P,S1,S2,S3)) hss
    generalize hR:ridesP (N,A,C,Q,P,S1,S2,S3) ss ss.length=R at h12 hRm hRp ⊢
    have w0:IntKind.i64.wrap (((R.length:Nat):Int) - 0)=(R.length:Int):=(i64_in _ (by omega)).trans (by omega)
    have w1:IntKind.u64.wrap ((R.length:Nat):Int)=(R.length:Int):=u64_in (by omega) (by omega)
    have w2:(R.length:Int)≤12:=by omega
    have w3:IntKind.i64.wrap (0+1)=1:=by decide
    have w4:(R.length:Int)≤255:=by omega
    have w5:(0:Int)≤R.length:=by omega
    dsimp only [x13_0,x13_0d,x43,x101,x156];simp only [↓hcsChn,entAsk,entLg20,entCh1,entCh2,entBLen,hK,w0,w1,w2,w3,w4,w5,go_sem,Nat.reduceAdd,Nat.reduceSub,Nat.reduceMul,Nat.reduceLT,Nat.reduceLeDiff,Nat.reduceEqDiff,Nat.reduceBEq,Nat.reduceBNe,List.reduceReplicate,reduceIte,reduceCtorEq,↓reduceIte]
    simp only [hjl,w0,w1,w2,w3,w4,w5,td,reduceCtorEq]
    refine XW_first 2000 x101_0d [] Unit (fun _=>[]) (fun _=>[]) (fun _=>False) (fun _=>0) 0 ?_ (fun _ h=>h.elim)
    dsimp only [x101_0,x101_0d,x156];simp only [↓hcsChn,entAsk,entLg20,entCh1,entCh2,entBLen,w0,w1,w2,w3,go_sem,Nat.reduceAdd,Nat.reduceSub,Nat.reduceMul,Nat.reduceLT,Nat.reduceLeDiff,Nat.reduceEqDiff,Nat.reduceBEq,Nat.reduceBNe,List.reduceReplicate,reduceIte,reduceCtorEq,↓reduceIte]
    simp only [w0,w1,w2,w3,td,reduceCtorEq]
    refine XW_for 2000 x156_0d [0,1,2,14,21,23,25,30] (Nat × List DRide) (fun s=>[(8,.val (.int .i64) (s.1:Int))]) (fun s=>[(32,.row 102 (.st (.cons (.int .i64) (.cons (.int .i64) (.int .i64)))) s.2)])
     (fun s=>1≤s.1∧(s.1≤R.length∨s.1=1)∧s.2.Perm R∧sortedTo s.2 s.1) (fun s=>R.length+1 - s.1) (1,R) ?_ ?_ ?_
    ·dsimp only [x156_0d];simp only [go_sem,Nat.reduceAdd,Nat.reduceSub,Nat.reduceMul,Nat.reduceLT,Nat.reduceLeDiff,Nat.reduceEqDiff,Nat.reduceBEq,Nat.reduceBNe,List.reduceReplicate,reduceIte,reduceCtorEq,↓reduceIte];try trivial
    ·exact ⟨Nat.le_refl _,.inr rfl,.refl _,fun a b h1 h2=>by omega⟩
    ·rintro ⟨i,L⟩ ⟨hi1,hi2,hLp,hLs⟩
     dsimp only at hi1 hi2 hLp hLs
     have hLl:=hLp.length_eq
     by_cases hil:i < R.length
     ·have w6:IntKind.i64.wrap ((i:Int)+1)=((i+1:Nat):Int):=i64_in _ (by omega)
      dsimp only [x156_0,x156_0d];simp only [↓hcsChn,entAsk,entLg20,entCh1,entCh2,entBLen,hil,w6,go_sem,Nat.reduceAdd,Nat.reduceSub,Nat.reduceMul,Nat.reduceLT,Nat.reduceLeDiff,Nat.reduceEqDiff,Nat.reduceBEq,Nat.reduceBNe,List.reduceReplicate,reduceIte,reduceCtorEq,↓reduceIte]
      simp only [hil,w6,td,reduceCtorEq]
      refine XW_for 3000 x156_1d [0,1,2,14,21,23,25,30] (Nat × List DRide) (fun s=>[(9,.val (.int .i64) (s.1:Int))]) (fun s=>[(32,.row 102 (.st (.cons (.int .i64) (.cons (.int .i64) (.int .i64)))) s.2)])
       (fun s=>s.1≤i∧s.2.Perm R∧almost s.2 i s.1) (fun s=>s.1) (i,L) ?_ ?_ ?_
      ·dsimp only [x156_1d];simp only [go_sem,Nat.reduceAdd,Nat.reduceSub,Nat.reduceMul,Nat.reduceLT,Nat.reduceLeDiff,Nat.reduceEqDiff,Nat.reduceBEq,Nat.reduceBNe,List.reduceReplicate,reduceIte,reduceCtorEq,↓reduceIte];try trivial
      ·exact ⟨Nat.le_refl _,hLp,almost_start hLs⟩
      ·rintro ⟨j,L'⟩ ⟨hji,hLp',hLa⟩
       dsimp only at hji hLp' hLa
       have hLl':=hLp'.length_eq
       by_cases hj0:j=0
       ·dsimp only [x156_1,x156_1d];simp only [↓hcsChn,entAsk,entLg20,entCh1,entCh2,entBLen,hil,w6,hLl',go_sem,Nat.reduceAdd,Nat.reduceSub,Nat.reduceMul,Nat.reduceLT,Nat.reduceLeDiff,Nat.reduceEqDiff,Nat.reduceBEq,Nat.reduceBNe,List.reduceReplicate,reduceIte,reduceCtorEq,↓reduceIte]
        simp only [hil,w6,hLl',td,reduceCtorEq]
        exact ⟨⟨fun h=>by omega,fun h=>by omega,fun h=>by omega,fun h=>by omega⟩,fun h=>by omega,fun _=>⟨(i+1,L'),by dsimp only;omega,⟨by dsimp only;omega,.inl (by dsimp only;omega),hLp',almost_done hLa hji (.inl hj0)⟩,rfl,rfl⟩⟩
       ·have w7:IntKind.i64.wrap ((j:Int) - 1)=((j - 1:Nat):Int):=(i64_in _ (by omega)).trans (by omega)
        have m1:=hRm _ (hLp'.mem_iff.1 (getD_mem2 (d:=dRd) (k:=j) (by omega)))
        have m2:=hRm _ (hLp'.mem_iff.1 (getD_mem2 (d:=dRd) (k:=j - 1) (by omega)))
        have w8:IntKind.i64.wrap ((L'.getD j (0,0,0)).1 - (L'.getD (j - 1) (0,0,0)).1)=(L'.getD j (0,0,0)).1 - (L'.getD (j - 1) (0,0,0)).1:=i64_in _ (by
         change 0≤(L'.getD j (0,0,0)).1∧(L'.getD j (0,0,0)).1≤_ at m1
         change 0≤(L'.getD (j - 1) (0,0,0)).1∧(L'.getD (j - 1) (0,0,0)).1≤_ at m2
         omega)
        dsimp only [x156_1,x156_1d];simp only [↓hcsChn,entAsk,entLg20,entCh1,entCh2,entBLen,hil,w6,w7,w8,hLl',Int.toNat_natCast,go_sem,Nat.reduceAdd,Nat.reduceSub,Nat.reduceMul,Nat.reduceLT,Nat.reduceLeDiff,Nat.reduceEqDiff,Nat.reduceBEq,Nat.reduceBNe,List.reduceReplicate,reduceIte,reduceCtorEq,↓reduceIte]
        simp only [hil,w6,w7,w8,hLl',Int.toNat_natCast,List.length_set,td,reduceCtorEq]
        have hj1:j < R.length:=by omega
        have hj2:j - 1 < R.length:=by omega
        have hj3:((j - 1:Nat):Int) < R.length:=by omega
        have hj4:(0:Int)≤((j - 1:Nat):Int):=by omega
        have hj5:(0:Int) < j:=by omega
        refine ⟨by omega,fun h=>⟨by omega,(j - 1,swapR L' j),by dsimp only;omega,⟨by dsimp only;omega,(swapR_perm (by omega)).trans hLp',almost_step hLa (by omega) (by omega) hji ?_⟩,rfl,rfl⟩,fun h=>⟨(i+1,L'),by dsimp only;omega,⟨by dsimp only;omega,.inl (by dsimp only;omega),hLp',almost_done hLa hji (.inr ?_)⟩,rfl,rfl⟩⟩
        ·have:=h.2
         show (L'.getD j (0,0,0)).1 < (L'.getD (j - 1) (0,0,0)).1
         omega
        ·have:=h hj5
         show (L'.getD (j - 1) (0,0,0)).1≤(L'.getD j (0,0,0)).1
         omega
     ·dsimp only [x156_0,x156_0d];simp only [↓hcsChn,entAsk,entLg20,entCh1,entCh2,entBLen,hil,go_sem,Nat.reduceAdd,Nat.reduceSub,Nat.reduceMul,Nat.reduceLT,Nat.reduceLeDiff,Nat.reduceEqDiff,Nat.reduceBEq,Nat.reduceBNe,List.reduceReplicate,reduceIte,reduceCtorEq,↓reduceIte]
      simp only [hil,td,reduceCtorEq]
      obtain rfl:L=ridesR (N,A,C,Q,P,S1,S2,S3) ss ss.length:=sorted_eq (hLp.trans hRp) (sortedTo_pairwise hLs (by omega)) (ridesR_sorted _ _ _)
      refine XW_for 3000 x13_1d [0,1,2,14,21,23,25,32] Nat (fun k=>[(117,.val (.int .i64) (k:Int))]) (fun k=>[(30,.row 72 (.st (.cons (.int .i64) (.int .i64))) ((List.range k).map fun k=>(legAt (N,A,C,Q,P,S1,S2,S3) c ss k).1))])
       (fun k=>k≤ss.length∧∀ k',k' < k→(legAt (N,A,C,Q,P,S1,S2,S3) c ss k').2=true) (fun k=>ss.length - k) 0 ?_ ?_ ?_
      ·dsimp only [x13_1d];simp only [go_sem,Nat.reduceAdd,Nat.reduceSub,Nat.reduceMul,Nat.reduceLT,Nat.reduceLeDiff,Nat.reduceEqDiff,Nat.reduceBEq,Nat.reduceBNe,List.reduceReplicate,reduceIte,reduceCtorEq,↓reduceIte];try trivial
      ·exact ⟨Nat.zero_le _,fun k hk=>by omega⟩
      ·rintro k ⟨hk,hB'⟩
       by_cases hkl:k < ss.length
       ·have w6:IntKind.i64.wrap ((k:Int)+1)=((k+1:Nat):Int):=i64_in _ (by omega)
        dsimp only [x13_1,x13_1d];simp only [↓hcsChn,entAsk,entLg20,entCh1,entCh2,entBLen,hkl,hss,w6,go_sem,Nat.reduceAdd,Nat.reduceSub,Nat.reduceMul,Nat.reduceLT,Nat.reduceLeDiff,Nat.reduceEqDiff,Nat.reduceBEq,Nat.reduceBNe,List.reduceReplicate,reduceIte,reduceCtorEq,↓reduceIte]
        simp only [hkl,w6,td,reduceCtorEq]
        have hnd:∀ k:Nat,(if ((k:Nat):Int)=0 then k2 else if (ss.getD (Int.toNat (((k:Nat):Int) - 1)) dStop).2=true then (reqAt (N,A,C,Q,P,S1,S2,S3) (ss.getD (Int.toNat (((k:Nat):Int) - 1)) dStop).1).2.1 else (reqAt (N,A,C,Q,P,S1,S2,S3) (ss.getD (Int.toNat (((k:Nat):Int) - 1)) dStop).1).2.2.1)=nodeF (N,A,C,Q,P,S1,S2,S3) c ss k:=by
         intro k
         cases k with
         | zero =>
          refine (if_pos (show ((0:Nat):Int)=0 from rfl)).trans ?_
          show k2=(carAt (N,A,C,Q,P,S1,S2,S3) (c:Int)).2.1
          rw [hca]
         | succ k =>
          rw [if_neg (by omega),show Int.toNat (((k+1:Nat):Int) - 1)=k by omega,nodeF_s]
        have hwd:((List.range (ss.length+1)).map (winF (N,A,C,Q,P,S1,S2,S3) (c:Int) ss)).getD k (0,0)=winF (N,A,C,Q,P,S1,S2,S3) (c:Int) ss k:=by
         rw [List.getD_eq_getElem?_getD,List.getElem?_map,List.getElem?_range (by omega)];rfl
        have hwl:((List.range (ss.length+1)).map (winF (N,A,C,Q,P,S1,S2,S3) (c:Int) ss)).length=ss.length+1:=by rw [List.length_map,List.length_range]
        have hll:((List.range k).map fun k=>(legAt (N,A,C,Q,P,S1,S2,S3) (c:Int) ss k).1).length=k:=by rw [List.length_map,List.length_range]
        rw [hnd k,hnd (k+1),hwd,hwl,hll]
        have hLg:legF (N,A,C,Q,P,S1,S2,S3) (nodeF (N,A,C,Q,P,S1,S2,S3) c ss k) (nodeF (N,A,C,Q,P,S1,S2,S3) c ss (k+1)) (winF (N,A,C,Q,P,S1,S2,S3) c ss k)=legAt (N,A,C,Q,P,S1,S2,S3) c ss k:=rfl
        rw [hLg]
        have hwr:=win_rng ha (k:=k) (by omega)
        have hbk:(winF (N,A,C,Q,P,S1,S2,S3) c ss k).1≤(winF (N,A,C,Q,P,S1,S2,S3) c ss k).2:=by
         have:=hB k (by omega)
         unfold badW at this
         have:=of_decide_eq_false this
         omega
        refine ⟨⟨Int.ofNat_le.2 hk,Int.ofNat_le.2 hkl,by omega,by omega,hw,hwr,hbk⟩,fun h=>?_,fun h=>⟨by omega,k+1,by omega,⟨by omega,fun k' hk'=>?_⟩,rfl,range_map_s _ k⟩⟩
        ·have hz:chainF (N,A,C,Q,P,S1,S2,S3) c ss=(([],[],[]),4):=by
          unfold chainF
          rw [if_neg (by rw [ha];simp),if_neg ?_,if_pos (List.any_eq_true.2 ⟨k,List.mem_range.2 hkl,by rw [h];rfl⟩)];· rfl
          intro h'
          obtain ⟨i,hi,hb⟩:=List.any_eq_true.1 h'
          rw [hB i (by have:=List.mem_range.1 hi;omega)] at hb
          exact Bool.noConfusion hb
         rw [hz]
        ·rcases Nat.lt_or_ge k' k with q | q
         ·exact hB' k' q
         ·rw [show k' = k by omega];exact h
       ·dsimp only [x13_1,x13_1d];simp only [↓hcsChn,entAsk,entLg20,entCh1,entCh2,entBLen,hkl,go_sem,Nat.reduceAdd,Nat.reduceSub,Nat.reduceMul,Nat.reduceLT,Nat.reduceLeDiff,Nat.reduceEqDiff,Nat.reduceBEq,Nat.reduceBNe,List.reduceReplicate,reduceIte,reduceCtorEq,↓reduceIte]
        simp only [hkl,td,reduceCtorEq]
        obtain rfl:k=ss.length:=by omega
        have hz:chainF (N,A,C,Q,P,S1,S2,S3) c ss=((winsF (N,A,C,Q,P,S1,S2,S3) c ss,legsF (N,A,C,Q,P,S1,S2,S3) c ss,ridesR (N,A,C,Q,P,S1,S2,S3) ss ss.length),0):=by
         unfold chainF
         rw [if_neg (by rw [ha];simp),if_neg ?_,if_neg ?_]
         ·intro h'
          obtain ⟨i,hi,hb⟩:=List.any_eq_true.1 h'
          rw [hB' i (List.mem_range.1 hi)] at hb
          exact Bool.noConfusion hb
         ·intro h'
          obtain ⟨i,hi,hb⟩:=List.any_eq_true.1 h'
          rw [hB i (by have:=List.mem_range.1 hi;omega)] at hb
          exact Bool.noConfusion hb
        rw [hz];rfl
end T
end Go.Proofs.YtecdcopihghnaaaGreat
end
section
namespace Go.Proofs.YtecdcopihghnaaaGreat
set_option linter.unusedVariables false
set_option linter.unusedSimpArgs false
open Go.RowKit Go.IntWalk
namespace T
def entHigh:Ent:=⟨105,.cons (.int .i64) (.cons (.int .i64) (.cons (.ptr (.sl (.int .i64))) .nil)),(.int .i64),false,none,fun x=>((0≤(x.1:Int)∧(x.1:Int) < List.length (α:=Int) x.2.2.1)∧0≤(x.2.1:Int)∧(x.2.1:Int) < List.length (α:=Int) x.2.2.1)∧Within 0 1000000000 x.2.2.1,fun x=>List.getD (α:=Int) x.2.2.1 (x.2.1:Int).toNat 0 - List.getD (α:=Int) x.2.2.1 (x.1:Int).toNat 0⟩
def csHg:List Ent:=[] theorem hcsHg (f:FuncId):findEnt csHg f=findEnt [] f:=rfl
theorem conHigh:Con Tryz.prog entHigh:=by
 refine con_is (C:=csHg) x105 (by kernel_rfl) (by simp [csHg]) fun x hx hf=>?_
 obtain ⟨(a:Int),(b:Int),(S:List Int),_⟩:=x
 obtain ⟨⟨⟨h1,h2⟩,h3,h4⟩,hw⟩:=hx
 have h1:0≤a:=h1
 have h2:a < (S.length:Int):=h2
 have h3:0≤b:=h3
 have h4:b < (S.length:Int):=h4
 have hw:Within 0 1000000000 S:=hw
 have w1:=hw.getD (Int.le_refl _) (by omega) a.toNat
 have w2:=hw.getD (Int.le_refl _) (by omega) b.toNat
 dsimp only [entHigh,x105];simp only [↓hcsHg,go_sem,Nat.reduceAdd,Nat.reduceSub,Nat.reduceMul,Nat.reduceLT,Nat.reduceLeDiff,Nat.reduceEqDiff,Nat.reduceBEq,Nat.reduceBNe,List.reduceReplicate,reduceIte,reduceCtorEq,↓reduceIte];try simp only [td,reduceCtorEq]
 exact ⟨⟨⟨h3,h4⟩,h1,h2⟩,i64_in _ (by omega)⟩
def entGrd:Ent:=⟨49,.cons (.st (.cons (.sl (.st (.cons (.int .i64) (.int .i64)))) (.cons (.sl (.st (.cons (.int .i64) (.int .i64)))) (.sl (.st (.cons (.int .i64) (.cons (.int .i64) (.int .i64)))))))) .nil,.cons (.sl (.int .i64)) (.cons (.int .i64) .nil),true,none,fun _=>True,fun x=>((guardF x.1).1,(guardF x.1).2,())⟩
def csGr:List Ent:=[entRctR,entWorst,entHigh] theorem hcsGr (f:FuncId):findEnt csGr f=findEnt [entRctR,entWorst,entHigh] f:=rfl
set_option maxHeartbeats 4000000 in
theorem conGrd:Con Tryz.prog entGrd:=by
 refine con_isM (C:=csGr) z49 (by kernel_rfl) (by simp [csGr,conRctR,conWorst,conHigh]) fun x hx hf=>?_
 obtain ⟨⟨(W:List DWin),(L:List DLeg),(R:List DRide)⟩,_⟩:=x
 dsimp only [entGrd,z49];simp only [↓hcsGr,entRctR,entWorst,entHigh,go_sem,Nat.reduceAdd,Nat.reduceSub,Nat.reduceMul,Nat.reduceLT,Nat.reduceLeDiff,Nat.reduceEqDiff,Nat.reduceBEq,Nat.reduceBNe,List.reduceReplicate,reduceIte,reduceCtorEq,↓reduceIte]
 try simp only [td,reduceCtorEq]
 refine ⟨fun h=>by unfold guardF;rw [if_pos h],fun hr=>?_⟩
 have hc:=(rightC_iff.1 hr).1
 dsimp only at hc
 have hps:∀ k,_:=fun k=>psF_bd hr k
 dsimp only at hps
 have hlr:∀ k,((List.range (k+1)).map (psF L)).length=k+1:=fun k=>by rw [List.length_map,List.length_range]
 refine XW_for 1000 z49_0d [0,1] Nat (fun j=>[(24,.val (.int .i64) (j:Int))]) (fun j=>[(7,.box 32 [.own 6]),(6,.row 3 (.int .i64) ((List.range (j+1)).map (psF L)))]) (fun j=>j≤L.length) (fun j=>L.length - j) 0 ?_ ?_ ?_
 ·dsimp only [z49_0d]
  simp only [go_sem,Nat.reduceAdd,Nat.reduceSub,Nat.reduceMul,Nat.reduceLT,Nat.reduceLeDiff,Nat.reduceEqDiff,Nat.reduceBEq,Nat.reduceBNe,List.reduceReplicate,reduceIte,reduceCtorEq,↓reduceIte]
  exact ⟨rfl,rfl⟩
 ·exact Nat.zero_le _
 intro j hj
 by_cases hj':j < L.length
 ·have w2:IntKind.i64.wrap ((j:Int)+1)=((j+1:Nat):Int):=i64_in _ (by omega)
  have w3:IntKind.i64.wrap (((j+1:Nat):Int) - 1)=(j:Int):=(i64_in _ (by omega)).trans (by omega)
  have hgd:((List.range (j+1)).map (psF L)).getD j 0=psF L j:=range_getD _ (by omega)
  dsimp only [z49_0,z49_0d]
  simp only [↓hcsGr,entRctR,entWorst,entHigh,hj',hlr,hgd,w2,w3,Int.toNat_natCast,go_sem,Nat.reduceAdd,Nat.reduceSub,Nat.reduceMul,Nat.reduceLT,Nat.reduceLeDiff,Nat.reduceEqDiff,Nat.reduceBEq,Nat.reduceBNe,List.reduceReplicate,reduceIte,reduceCtorEq,↓reduceIte]
  try simp only [hj',hlr,hgd,w2,w3,Int.toNat_natCast,td,reduceCtorEq]
  exact ⟨⟨by omega,by omega,by omega⟩,j+1,by omega,hj',rfl,by
   have h1:=hps j
   have h2:=right_leg hr (k:=j) hj'
   dsimp only at h2
   rw [i64_in (psF L j+(L.getD j (0,0)).2) (by omega)]
   exact range_snoc (psF L) (j+1)⟩
 obtain rfl:j=L.length:=by omega
 dsimp only [z49_0,z49_0d]
 simp only [↓hcsGr,entRctR,entWorst,entHigh,go_sem,Nat.reduceAdd,Nat.reduceSub,Nat.reduceMul,Nat.reduceLT,Nat.reduceLeDiff,Nat.reduceEqDiff,Nat.reduceBEq,Nat.reduceBNe,List.reduceReplicate,reduceIte,reduceCtorEq,↓reduceIte]
 simp only [hj',td,reduceCtorEq]
 rw [List.length_replicate]
 have w4:IntKind.i64.wrap ((W.length:Int) - 1)=(W.length:Int) - 1:=i64_in _ (by omega)
 rw [w4]
 refine ⟨by show (8:Int) * (W.length:Int)≤_;omega,?_⟩
 have hgl:∀ p,(gsF (W,L,R) (W.length - p)).length=W.length - p:=fun p=>gsF_len _ _
 have hgb:∀ p,Within 0 (85983232 * (((W.length - p:Nat):Int)+1)) (gsF (W,L,R) (W.length - p)):=fun p=>gs_bd hr _ (Nat.sub_le _ _)
 refine XW_for 2000 z49_1d [0,7,6] Nat (fun p=>[(9,.val (.int .i64) ((p:Int) - 1))]) (fun p=>[(1006,.row 3 (.int .i64) (aR p (gsF (W,L,R) (W.length - p))))]) (fun p=>p≤W.length∧∀ r ∈ R,(p:Int)≤r.1→lateR (W,L,R) r=false) (fun p=>p) W.length ?_ ?_ ?_
 ·dsimp only [z49_1d]
  simp only [go_sem,Nat.reduceAdd,Nat.reduceSub,Nat.reduceMul,Nat.reduceLT,Nat.reduceLeDiff,Nat.reduceEqDiff,Nat.reduceBEq,Nat.reduceBNe,List.reduceReplicate,reduceIte,reduceCtorEq,↓reduceIte]
  rw [Nat.sub_self]
  exact (List.append_nil _).symm
 ·refine ⟨Nat.le_refl _,fun r hrm hr2=>?_⟩
  have:=(rightC_iff.1 hr).2.2.2 r hrm
  dsimp only at this
  omega
 rintro p ⟨hp,hnl⟩
 have hrest:=hgl p
 have hrb:=hgb p
 generalize hG:gsF (W,L,R) (W.length - p)=rest at hrest hrb
 cases p with
 | succ k =>
  have e9:((k+1:Nat):Int) - 1=(k:Int):=by omega
  have e10:(k:Int) ≥ 0:=by omega
  dsimp only [z49_1,z49_1d]
  simp only [↓hcsGr,entRctR,entWorst,entHigh,e9,e10,aR_set,aR_len,Int.toNat_natCast,go_sem,Nat.reduceAdd,Nat.reduceSub,Nat.reduceMul,Nat.reduceLT,Nat.reduceLeDiff,Nat.reduceEqDiff,Nat.reduceBEq,Nat.reduceBNe,List.reduceReplicate,reduceIte,reduceCtorEq,↓reduceIte]
  try simp only [e9,e10,aR_set,aR_len,Int.toNat_natCast,td,reduceCtorEq]
  refine ⟨⟨by omega,by omega⟩,?_⟩
  have hk:k < W.length:=by omega
  have hstep:=gs_step (W,L,R) (k:=k) hk
  rw [hG] at hstep
  have hfp:∀ i,0≤(R.take i).foldl (rF (W,L,R) k rest) (W.getD k (0,0)).1∧(R.take i).foldl (rF (W,L,R) k rest) (W.getD k (0,0)).1≤85983232 * (((W.length - (k+1):Nat):Int)+1)+85983232:=fun i=>by
   have h2:=right_win hr (k:=k) hk
   dsimp only at h2
   exact fold_bd hr (by omega) hrb (R.take i) (fun r hr=>List.mem_of_mem_take hr) _ h2.1 (by omega)
  refine XW_for 3000 z49_2d [0,7,6] Nat (fun i=>[(65,.val (.int .i64) (i:Int))]) (fun i=>[(1006,.row 3 (.int .i64) (bR k ((R.take i).foldl (rF (W,L,R) k rest) (W.getD k (0,0)).1) rest))]) (fun i=>i≤R.length∧∀ q,q < i→(R.getD q (0,0,0)).1=k→lateR (W,L,R) (R.getD q (0,0,0))=false) (fun i=>R.length - i) 0 ?_ ?_ ?_
  ·dsimp only [z49_2d]
   simp only [go_sem,Nat.reduceAdd,Nat.reduceSub,Nat.reduceMul,Nat.reduceLT,Nat.reduceLeDiff,Nat.reduceEqDiff,Nat.reduceBEq,Nat.reduceBNe,List.reduceReplicate,reduceIte,reduceCtorEq,↓reduceIte]
   exact ⟨rfl,rfl⟩
  ·exact ⟨Nat.zero_le _,fun q hq=>absurd hq (Nat.not_lt_zero _)⟩
  rintro i ⟨hi,hm⟩
  by_cases hi':i < R.length
  ·have w3:IntKind.i64.wrap ((i:Int)+1)=((i+1:Nat):Int):=i64_in _ (by omega)
   have hrd:=right_ride hr (k:=i) hi'
   have hts:R.take (i+1)=R.take i ++ [R.getD i (0,0,0)]:=by
    rw [List.take_succ_eq_append_getElem hi']
    simp [List.getD,hi']
   have hfi:=hfp i
   have hmem:=getD_mem2 (d:=((0,0,0):DRide)) hi'
   generalize hS:R.getD i (0,0,0)=r at hrd hts hmem
   generalize hA:(R.take i).foldl (rF (W,L,R) k rest) (W.getD k (0,0)).1=acc at hfi
   obtain ⟨a,b,d⟩:=r
   dsimp only at hrd
   by_cases hak:a=k
   ·subst hak
    obtain ⟨b,rfl⟩:∃ z:Nat,b=z:=⟨b.toNat,by omega⟩
    have hg1:((List.range (L.length+1)).map (psF L)).getD b 0=psF L b:=range_getD _ (by omega)
    have hg2:((List.range (L.length+1)).map (psF L)).getD k 0=psF L k:=range_getD _ (by omega)
    have hsw:Within 0 1000000000 ((List.range (L.length+1)).map (psF L)):=fun x hx=>by
     obtain ⟨q,hq,rfl⟩:=List.mem_map.1 hx
     have:=hps q
     have:=List.mem_range.1 hq
     omega
    have hbl:(b:Int) < ((L.length+1:Nat):Int):=by omega
    have hkl:k < L.length+1:=by omega
    have hb0:(0:Int)≤(b:Int):=Int.natCast_nonneg _
    by_cases hlate:d < psF L b - psF L k
    ·have hlt:guardF (W,L,R)=([],20):=by
      unfold guardF
      rw [if_neg (by rw [hr];simp),if_pos (late_any.2 ⟨_,hmem,by unfold lateR;dsimp only;rw [Int.toNat_natCast,Int.toNat_natCast];exact decide_eq_true hlate⟩)]
     dsimp only [z49_2,z49_2d]
     simp only [↓hcsGr,entRctR,entWorst,entHigh,hi',hS,hA,w3,hlr,hg1,hg2,hsw,hbl,hkl,hb0,hlate,hlt,Int.toNat_natCast,go_sem,Nat.reduceAdd,Nat.reduceSub,Nat.reduceMul,Nat.reduceLT,Nat.reduceLeDiff,Nat.reduceEqDiff,Nat.reduceBEq,Nat.reduceBNe,List.reduceReplicate,reduceIte,reduceCtorEq,↓reduceIte]
     try simp only [hi',hS,hA,w3,hlr,hg1,hg2,hsw,hbl,hkl,hb0,hlate,hlt,Int.toNat_natCast,td,reduceCtorEq]
    have w5:IntKind.i64.wrap ((k:Int)+1)=((k+1:Nat):Int):=i64_in _ (by omega)
    dsimp only [z49_2,z49_2d]
    simp only [↓hcsGr,entRctR,entWorst,entHigh,hi',hS,hA,w3,w5,hlr,hg1,hg2,hsw,hbl,hkl,hb0,hlate,Int.toNat_natCast,go_sem,Nat.reduceAdd,Nat.reduceSub,Nat.reduceMul,Nat.reduceLT,Nat.reduceLeDiff,Nat.reduceEqDiff,Nat.reduceBEq,Nat.reduceBNe,List.reduceReplicate,reduceIte,reduceCtorEq,↓reduceIte]
    try simp only [hi',hS,hA,w3,w5,hlr,hg1,hg2,hsw,hbl,hkl,hb0,hlate,Int.toNat_natCast,td,reduceCtorEq]
    have hla:lateR (W,L,R) ((k:Int),(b:Int),d)=false:=by
     unfold lateR
     dsimp only
     rw [Int.toNat_natCast,Int.toNat_natCast]
     exact decide_eq_false (by omega)
    have hrf:rF (W,L,R) k rest acc ((k:Int),(b:Int),d)=mF (W,L,R) k rest ((k:Int),(b:Int),d) acc (b - k):=by
     unfold rF
     rw [if_pos rfl]
     dsimp only
     rw [Int.toNat_natCast]
    have hmb:=mF_bd hr hmem rfl (by omega) hrb hfi.1 hfi.2
    dsimp only at hmb
    rw [Int.toNat_natCast] at hmb
    refine XW_for 4000 z49_3d [0,7,6,3003] Nat (fun q=>[(12,.val (.int .i64) ((k+1+q:Nat):Int))]) (fun q=>[(1006,.row 3 (.int .i64) (bR k (mF (W,L,R) k rest ((k:Int),(b:Int),d) acc q) rest))]) (fun q=>q≤b - k) (fun q=>b - k - q) 0 ?_ ?_ ?_
    ·dsimp only [z49_3d]
     simp only [go_sem,Nat.reduceAdd,Nat.reduceSub,Nat.reduceMul,Nat.reduceLT,Nat.reduceLeDiff,Nat.reduceEqDiff,Nat.reduceBEq,Nat.reduceBNe,List.reduceReplicate,reduceIte,reduceCtorEq,↓reduceIte]
     rfl
    ·exact Nat.zero_le _
    intro q hq
    by_cases hq':q < b - k
    ·have w6:IntKind.i64.wrap (((k+1+q:Nat):Int)+1)=((k+1+(q+1):Nat):Int):=(i64_in _ (by omega)).trans (by omega)
     have hcb:((k+1+q:Nat):Int)≤(b:Int):=by omega
     have hg3:((List.range (L.length+1)).map (psF L)).getD (k+1+q) 0=psF L (k+1+q):=range_getD _ (by omega)
     have hql:k+1+q < L.length+1:=by omega
     have hmq:=hmb q (by omega)
     have hrq:=hrb.getD (by omega) (by omega) q
     have hpm:=psF_mono hr (a:=k+1+q) (b:=b) (by omega)
     dsimp only at hpm
     have w7:IntKind.i64.wrap (rest.getD q 0+(psF L b - psF L (k+1+q)))=rest.getD q 0+(psF L b - psF L (k+1+q)):=i64_in _ (by omega)
     have w8:IntKind.i64.wrap (rest.getD q 0+(psF L b - psF L (k+1+q)) - d)=rest.getD q 0+(psF L b - psF L (k+1+q)) - d:=i64_in _ (by omega)
     dsimp only [z49_3,z49_3d]
     simp only [↓hcsGr,entRctR,entWorst,entHigh,hcb,bR_len,bR_at,bR_rest,bR_set,hlr,hg1,hg3,hsw,hbl,hb0,hql,w6,w7,w8,Int.toNat_natCast,go_sem,Nat.reduceAdd,Nat.reduceSub,Nat.reduceMul,Nat.reduceLT,Nat.reduceLeDiff,Nat.reduceEqDiff,Nat.reduceBEq,Nat.reduceBNe,List.reduceReplicate,reduceIte,reduceCtorEq,↓reduceIte]
     try simp only [hcb,bR_len,bR_at,bR_rest,bR_set,hlr,hg1,hg3,hsw,hbl,hb0,hql,w6,w7,w8,Int.toNat_natCast,td,reduceCtorEq]
     refine ⟨⟨by omega,by omega,by omega,by omega,by omega⟩,q+1,by omega,by omega,rfl,?_⟩
     show _=bR k (maxI _ _) rest
     unfold maxI
     rw [Int.toNat_natCast]
    ·have hcb:¬ ((k+1+q:Nat):Int)≤(b:Int):=by omega
     dsimp only [z49_3,z49_3d]
     simp only [↓hcsGr,entRctR,entWorst,entHigh,hcb,w3,go_sem,Nat.reduceAdd,Nat.reduceSub,Nat.reduceMul,Nat.reduceLT,Nat.reduceLeDiff,Nat.reduceEqDiff,Nat.reduceBEq,Nat.reduceBNe,List.reduceReplicate,reduceIte,reduceCtorEq,↓reduceIte]
     try simp only [hcb,w3,td,reduceCtorEq]
     obtain rfl:q=b - k:=by omega
     refine ⟨i+1,by omega,⟨hi',fun q hq e=>?_⟩,rfl,?_⟩
     ·by_cases c:q=i
      ·subst c
       rw [hS]
       exact hla
      ·exact hm q (by omega) e
     ·rw [hts,List.foldl_append,hA]
      show _=bR k (rF (W,L,R) k rest acc ((k:Int),(b:Int),d)) rest
      rw [hrf]
   ·dsimp only [z49_2,z49_2d]
    simp only [↓hcsGr,entRctR,entWorst,entHigh,hi',hS,hA,hak,w3,hlr,Int.toNat_natCast,go_sem,Nat.reduceAdd,Nat.reduceSub,Nat.reduceMul,Nat.reduceLT,Nat.reduceLeDiff,Nat.reduceEqDiff,Nat.reduceBEq,Nat.reduceBNe,List.reduceReplicate,reduceIte,reduceCtorEq,↓reduceIte]
    try simp only [hi',hS,hA,hak,w3,hlr,Int.toNat_natCast,td,reduceCtorEq]
    refine ⟨i+1,by omega,⟨hi',fun q hq e=>?_⟩,rfl,?_⟩
    ·by_cases c:q=i
     ·subst c
      rw [hS] at e
      exact absurd e hak
     ·exact hm q (by omega) e
    ·rw [hts,List.foldl_append,hA]
     show _=bR k (rF (W,L,R) k rest acc (a,b,d)) rest
     unfold rF
     rw [if_neg hak]
  ·dsimp only [z49_2,z49_2d]
   simp only [↓hcsGr,entRctR,entWorst,entHigh,hi',go_sem,Nat.reduceAdd,Nat.reduceSub,Nat.reduceMul,Nat.reduceLT,Nat.reduceLeDiff,Nat.reduceEqDiff,Nat.reduceBEq,Nat.reduceBNe,List.reduceReplicate,reduceIte,reduceCtorEq,↓reduceIte]
   try simp only [hi',td,reduceCtorEq]
   refine ⟨k,by omega,⟨by omega,fun r hrm hle=>?_⟩,i64_in _ (by omega),?_⟩
   ·by_cases c:r.1=k
    ·obtain ⟨q,hq,rfl⟩:=List.getElem_of_mem hrm
     have e:R.getD q (0,0,0)=R[q]:=by simp [List.getD,hq]
     have:=hm q (by omega)
     rw [e] at this
     exact this c
    ·exact hnl r hrm (by omega)
   ·rw [hstep,aR_bR,List.take_of_length_le (by omega)]
    rfl
 | zero =>
  have e10:¬ (((0:Nat):Int) - 1) ≥ 0:=by decide
  dsimp only [z49_1,z49_1d]
  simp only [↓hcsGr,entRctR,entWorst,entHigh,e10,aR_zero,go_sem,Nat.reduceAdd,Nat.reduceSub,Nat.reduceMul,Nat.reduceLT,Nat.reduceLeDiff,Nat.reduceEqDiff,Nat.reduceBEq,Nat.reduceBNe,List.reduceReplicate,reduceIte,reduceCtorEq,↓reduceIte]
  try simp only [e10,aR_zero,td,reduceCtorEq]
  have hnl2:∀ r ∈ R,lateR (W,L,R) r=false:=fun r hrm=>hnl r hrm (by
   have:=(rightC_iff.1 hr).2.2.2 r hrm
   dsimp only at this
   show (0:Int)≤r.1
   omega)
  rw [Nat.sub_zero] at hG
  have hfit:fitsG (W,L,R) rest=true:=by rw [← hG];exact gs_fits hr hnl2
  have hwf:worstF (W,L,R) rest=(playF rest (highsF L),0):=by unfold worstF;rw [if_pos hfit]
  have hgu:guardF (W,L,R)=if inTime (W,L,R) (playF rest (highsF L))=false then ([],20) else (rest,0):=by
   unfold guardF
   rw [if_neg (by rw [hr];simp),if_neg (fun z=>by obtain ⟨r,h1,h2⟩:=late_any.1 z;rw [hnl2 r h1] at h2;cases h2)]
   dsimp only
   rw [hG]
  have hpl:(playF rest (highsF L)).length=W.length:=by rw [playF_len,highs_len];omega
  refine XW_top (XW_frz 8 1006 rfl rfl (XW_of ?_))
  simp only [↓hcsGr,entRctR,entWorst,entHigh,hwf,go_sem,Nat.reduceAdd,Nat.reduceSub,Nat.reduceMul,Nat.reduceLT,Nat.reduceLeDiff,Nat.reduceEqDiff,Nat.reduceBEq,Nat.reduceBNe,List.reduceReplicate,reduceIte,reduceCtorEq,↓reduceIte]
  try simp only [td,reduceCtorEq]
  generalize hP:playF rest (highsF L)=P at hgu hpl
  refine XW_for 5000 z49_4d [0] Nat (fun i=>[(119,.val (.int .i64) (i:Int))]) (fun _=>[]) (fun i=>i≤P.length∧∀ q,q < i→P.getD q 0≤(W.getD q (0,0)).2) (fun i=>P.length - i) 0 ?_ ?_ ?_
  ·dsimp only [z49_4d]
   simp only [go_sem,Nat.reduceAdd,Nat.reduceSub,Nat.reduceMul,Nat.reduceLT,Nat.reduceLeDiff,Nat.reduceEqDiff,Nat.reduceBEq,Nat.reduceBNe,List.reduceReplicate,reduceIte,reduceCtorEq,↓reduceIte]
   try trivial
  ·exact ⟨Nat.zero_le _,fun q hq=>absurd hq (Nat.not_lt_zero _)⟩
  rintro i ⟨hi,hm⟩
  have w3:i < P.length→IntKind.i64.wrap ((i:Int)+1)=((i+1:Nat):Int):=fun _=>i64_in _ (by omega)
  dsimp only [z49_4,z49_4d]
  simp only [↓hcsGr,entRctR,entWorst,entHigh,go_sem,Nat.reduceAdd,Nat.reduceSub,Nat.reduceMul,Nat.reduceLT,Nat.reduceLeDiff,Nat.reduceEqDiff,Nat.reduceBEq,Nat.reduceBNe,List.reduceReplicate,reduceIte,reduceCtorEq,↓reduceIte]
  try simp only [td,reduceCtorEq]
  refine ⟨fun hi'=>⟨hi',by omega,fun h=>?_,fun h=>⟨i+1,by omega,⟨hi',fun q hq=>?_⟩,w3 hi'⟩⟩,fun hi'=>?_⟩
  ·rw [hgu,if_pos]
   rw [← Bool.not_eq_true]
   intro q
   have:=inTime_iff.1 q i hi'
   dsimp only at this
   omega
  ·by_cases c:q=i
   ·subst c;exact h
   ·exact hm q (by omega)
  ·rw [hgu,if_neg]
   rw [inTime_iff.2 fun q hq=>hm q (by omega)]
   simp
end T
end Go.Proofs.YtecdcopihghnaaaGreat
end
section
namespace Go.Proofs.YtecdcopihghnaaaGreat
set_option linter.unusedVariables false
set_option linter.unusedSimpArgs false
open Go.RowKit Go.IntWalk
namespace T
def entRides:Ent:=⟨112,.cons (.sl (.st (.cons (.int .i64) .bool))) (.cons (.sl (.st (.cons (.int .i64) (.cons (.int .i64) (.cons (.int .i64) (.cons (.int .i64) (.cons (.int .i64) (.cons (.int .i64) (.cons (.int .i64) (.cons (.int .i64) (.cons (.int .i64) (.int .i64)))))))))))) (.cons (.int .i64) (.cons (.int .i64) .nil))),.bool,false,none,fun x=>0≤(x.2.2.2.1:Int),fun x=>ridesB x.1 x.2.1 x.2.2.1 (x.2.2.2.1:Int).toNat⟩
def csRi:List Ent:=[entIn] theorem hcsRi (f:FuncId):findEnt csRi f=findEnt [entIn] f:=rfl
theorem conRides:Con Tryz.prog entRides:=by
 refine con_is (C:=csRi) x112 (by kernel_rfl) (by simp [csRi,conIn]) fun x hx hf=>?_
 obtain ⟨(ss:List DStop),(rs:List DReq),(m:Int),(j:Int),_⟩:=x
 have hl:rs.length≤9223372036854775807:=hf.2.1.1
 have hx:0≤j:=hx
 obtain ⟨j,rfl⟩:∃ n:Nat,j=n:=⟨j.toNat,by omega⟩
 dsimp only [entRides,x112];simp only [↓hcsRi,entIn,go_sem,Nat.reduceAdd,Nat.reduceSub,Nat.reduceMul,Nat.reduceLT,Nat.reduceLeDiff,Nat.reduceEqDiff,Nat.reduceBEq,Nat.reduceBNe,List.reduceReplicate,reduceIte,reduceCtorEq,↓reduceIte];try simp only [td,reduceCtorEq]
 refine XW_for 1000 x112_0d [] Nat (fun i=>[(9,.val (.int .i64) (i:Int))]) (fun _=>[]) (fun n=>n≤rs.length∧∀ i,i < n→(decide ((rs.getD i dReq).1=m) && inB ss i j)=false) (fun i=>rs.length - i) 0 ?_ ?_ ?_
 ·dsimp only [x112_0d]
  simp only [go_sem,Nat.reduceAdd,Nat.reduceSub,Nat.reduceMul,Nat.reduceLT,Nat.reduceLeDiff,Nat.reduceEqDiff,Nat.reduceBEq,Nat.reduceBNe,List.reduceReplicate,reduceIte,reduceCtorEq,↓reduceIte]
  try rfl
 ·exact ⟨Nat.zero_le _,fun i hi=>by omega⟩
 ·rintro i ⟨hi,hn⟩
  dsimp only [x112_0,x112_0d]
  simp only [↓hcsRi,entIn,go_sem,Nat.reduceAdd,Nat.reduceSub,Nat.reduceMul,Nat.reduceLT,Nat.reduceLeDiff,Nat.reduceEqDiff,Nat.reduceBEq,Nat.reduceBNe,List.reduceReplicate,reduceIte,reduceCtorEq,↓reduceIte]
  try simp only [td,reduceCtorEq]
  have w2:i < rs.length→IntKind.i64.wrap ((i:Int)+1)=((i+1:Nat):Int):=fun h=>i64_in _ (by omega)
  refine ⟨fun hi'=>⟨hi',fun q=>?_,fun q=>⟨i+1,by omega,⟨hi',fun k hk=>?_⟩,w2 hi'⟩⟩,fun hi'=>?_⟩
  ·symm
   unfold ridesB
   rw [List.any_eq_true]
   exact ⟨i,List.mem_range.2 hi',by simpa using q⟩
  ·by_cases c:k=i
   ·subst c;exact q
   ·intro z
    have:=hn k (by omega)
    rw [Bool.and_eq_false_imp] at this
    exact this (decide_eq_true z)
  ·symm
   unfold ridesB
   rw [List.any_eq_false]
   intro k hk
   have:=hn k (by rw [List.mem_range] at hk;omega)
   simp only [this,Bool.false_eq_true,not_false_eq_true]
def entAfter:Ent:=⟨170,.cons (.sl (.st (.cons (.int .i64) .bool))) (.cons (.sl (.st (.cons (.int .i64) (.cons (.int .i64) (.cons (.int .i64) (.cons (.int .i64) (.cons (.int .i64) (.cons (.int .i64) (.cons (.int .i64) (.cons (.int .i64) (.cons (.int .i64) (.int .i64)))))))))))) (.cons (.int .i64) .nil)),(.st (.cons (.int .i64) (.cons (.int .i64) (.int .i64)))),false,none,fun x=>rightS x.1 x.2.1=true∧0≤(x.2.2.1:Int),fun x=>afterF x.1 x.2.1 x.2.2.1⟩
def csAf:List Ent:=[entIn] theorem hcsAf (f:FuncId):findEnt csAf f=findEnt [entIn] f:=rfl
theorem conAfter:Con Tryz.prog entAfter:=by
 refine con_is (C:=csAf) x170 (by kernel_rfl) (by simp [csAf,conIn]) fun x hx hf=>?_
 obtain ⟨(ss:List DStop),(rs:List DReq),(j:Int),_⟩:=x
 obtain ⟨hr,hj⟩:=hx
 have hj:0≤j:=hj
 obtain ⟨j,rfl⟩:∃ n:Nat,j=n:=⟨j.toNat,by omega⟩
 have hr:RightS ss rs:=of_decide_eq_true hr
 have hl:rs.length≤30000:=hr.1.2
 dsimp only [entAfter,x170];simp only [↓hcsAf,entIn,go_sem,Nat.reduceAdd,Nat.reduceSub,Nat.reduceMul,Nat.reduceLT,Nat.reduceLeDiff,Nat.reduceEqDiff,Nat.reduceBEq,Nat.reduceBNe,List.reduceReplicate,reduceIte,reduceCtorEq,↓reduceIte];try simp only [td,reduceCtorEq]
 refine XW_for 1000 x170_0d [0] Nat (fun i=>[(8,.val (.int .i64) (i:Int))])
  (fun i=>[(1,.box 161 [.val (.int .i64) (sumTo (fun i=>if inB ss i j=true then rl rs i else (0,0,0)) i).1,.val (.int .i64) (sumTo (fun i=>if inB ss i j=true then rl rs i else (0,0,0)) i).2.1,.val (.int .i64) (sumTo (fun i=>if inB ss i j=true then rl rs i else (0,0,0)) i).2.2])]) (fun n=>n≤rs.length) (fun i=>rs.length - i) 0 ?_ ?_ ?_
 ·dsimp only [x170_0d]
  simp only [go_sem,Nat.reduceAdd,Nat.reduceSub,Nat.reduceMul,Nat.reduceLT,Nat.reduceLeDiff,Nat.reduceEqDiff,Nat.reduceBEq,Nat.reduceBNe,List.reduceReplicate,reduceIte,reduceCtorEq,↓reduceIte]
  try trivial
 ·exact Nat.zero_le _
 ·rintro i hi
  have hb:=sumTo_bd (n:=i) (f:=fun i=>if inB ss i j=true then rl rs i else (0,0,0)) (fun i _=>after_part hr j i)
  have hpt:=placesB_iff.1 (after_part hr j i)
  have hnx:sumTo (fun i=>if inB ss i j=true then rl rs i else (0,0,0)) (i+1)=add3 (sumTo (fun i=>if inB ss i j=true then rl rs i else (0,0,0)) i) (if inB ss i j=true then rl rs i else (0,0,0)):=rfl
  have hend:i=rs.length→sumTo (fun i=>if inB ss i j=true then rl rs i else (0,0,0)) i=afterF ss rs j:=fun e=>by rw [e];rfl
  generalize sumTo (fun i=>if inB ss i j=true then rl rs i else (0,0,0)) i=S at hb hnx hend ⊢
  obtain ⟨s1,s2,s3⟩:=S
  dsimp only [x170_0,x170_0d]
  simp only [↓hcsAf,entIn,go_sem,Nat.reduceAdd,Nat.reduceSub,Nat.reduceMul,Nat.reduceLT,Nat.reduceLeDiff,Nat.reduceEqDiff,Nat.reduceBEq,Nat.reduceBNe,List.reduceReplicate,reduceIte,reduceCtorEq,↓reduceIte]
  try simp only [td,reduceCtorEq]
  have w2:i < rs.length→IntKind.i64.wrap ((i:Int)+1)=((i+1:Nat):Int):=fun h=>i64_in _ (by omega)
  dsimp only at hb hnx
  refine ⟨fun hi'=>⟨fun q=>⟨hi',hi',hi',i+1,by omega,hi',w2 hi',?_⟩,fun q=>⟨i+1,by omega,hi',w2 hi',?_⟩⟩,fun hi'=>hend (by omega)⟩
  ·rw [if_pos q] at hpt hnx
   rw [hnx]
   unfold add3 rl reqLoad at *
   rw [Int.toNat_natCast] at *
   dsimp only [dReq] at hpt ⊢
   exact ⟨i64_in _ (by omega),i64_in _ (by omega),i64_in _ (by omega)⟩
  ·rw [if_neg (by rw [q];simp)] at hnx
   rw [hnx,add3_zero]
   exact ⟨rfl,rfl,rfl⟩
theorem sumK_pick {rs:List DReq} {p:Int × Bool}:∀ {L:List (Int × Bool)} {i:Nat},L[i]? = some p→sumK rs (L.map (·.1))=add3 (rl rs p.1) (sumK rs ((L.eraseIdx i).map (·.1)))
 | [],_,h=>by simp at h
 | q :: r,0,h=>by
  simp only [List.getElem?_cons_zero,Option.some.injEq] at h
  subst h;rfl
 | q :: r,i+1,h=>by
  simp only [List.getElem?_cons_succ] at h
  rw [List.map_cons,sumK,sumK_pick h,List.eraseIdx_cons_succ,List.map_cons,sumK,← add3_assoc,add3_comm (rl rs q.1),add3_assoc]
theorem any_pick {α:Type} {f:α→Bool} {p:α}:∀ {L:List α} {i:Nat},L[i]? = some p→f p=false→(L.eraseIdx i).any f=L.any f
 | [],_,h,_=>by simp at h
 | q :: r,0,h,hf=>by
  simp only [List.getElem?_cons_zero,Option.some.injEq] at h
  subst h;simp [hf]
 | q :: r,i+1,h,hf=>by
  simp only [List.getElem?_cons_succ] at h
  rw [List.eraseIdx_cons_succ,List.any_cons,List.any_cons,any_pick h hf]
abbrev DMap:=List (Int × Bool)
def entCLoad:Ent:=⟨177,.cons (.mp .i64 .bool) (.cons (.sl (.st (.cons (.int .i64) (.cons (.int .i64) (.cons (.int .i64) (.cons (.int .i64) (.cons (.int .i64) (.cons (.int .i64) (.cons (.int .i64) (.cons (.int .i64) (.cons (.int .i64) (.int .i64)))))))))))) .nil),(.st (.cons (.int .i64) (.cons (.int .i64) (.int .i64)))),false,none,fun x=>(x.1:DMap).length≤30000∧∀ k ∈ (x.1:DMap),(0≤k.1∧k.1 < (x.2.1:List DReq).length)∧placesB (rl x.2.1 k.1)=true,fun x=>sumK x.2.1 ((x.1:DMap).map (·.1))⟩
def csCl:List Ent:=[entOf] theorem hcsCl (f:FuncId):findEnt csCl f=findEnt [entOf] f:=rfl
theorem conCLoad:Con Tryz.prog entCLoad:=by
 refine con_is (C:=csCl) x177 (by kernel_rfl) (by simp [csCl,conOf]) fun x hx hf=>?_
 obtain ⟨(H:DMap),(rs:List DReq),_⟩:=x
 obtain ⟨hn,hk⟩:=hx
 dsimp only at hn hk
 dsimp only [entCLoad,x177];simp only [↓hcsCl,entOf,go_sem,Nat.reduceAdd,Nat.reduceSub,Nat.reduceMul,Nat.reduceLT,Nat.reduceLeDiff,Nat.reduceEqDiff,Nat.reduceBEq,Nat.reduceBNe,List.reduceReplicate,reduceIte,reduceCtorEq,↓reduceIte];try simp only [td,reduceCtorEq]
 refine XW_for 1000 x177_0d [0] (DMap × DLoad) (fun _=>[])
  (fun s=>[(3,.it .i64 .bool s.1 none),(1,.box 181 [.val (.int .i64) s.2.1,.val (.int .i64) s.2.2.1,.val (.int .i64) s.2.2.2])])
  (fun s=>add3 s.2 (sumK rs (s.1.map (·.1)))=sumK rs (H.map (·.1))∧(∀ k ∈ s.1,k ∈ H)∧s.1.length≤H.length∧(0≤s.2.1∧s.2.1≤60 * (H.length - s.1.length))∧(0≤s.2.2.1∧s.2.2.1≤60 * (H.length - s.1.length))∧0≤s.2.2.2∧s.2.2.2≤60 * (H.length - s.1.length))
  (fun s=>s.1.length) (H,0,0,0) ?_ ?_ ?_
 ·dsimp only [x177_0d]
  simp only [go_sem,Nat.reduceAdd,Nat.reduceSub,Nat.reduceMul,Nat.reduceLT,Nat.reduceLeDiff,Nat.reduceEqDiff,Nat.reduceBEq,Nat.reduceBNe,List.reduceReplicate,reduceIte,reduceCtorEq,↓reduceIte]
  try trivial
 ·exact ⟨zero_add3 _,fun k hk=>hk,Nat.le_refl _,by dsimp only;omega,by dsimp only;omega,by dsimp only;omega⟩
 ·rintro ⟨L,s1,s2,s3⟩ ⟨hs,hL,hlen,hb1,hb2,hb3⟩
  dsimp only at hs hL hlen hb1 hb2 hb3
  dsimp only [x177_0,x177_0d]
  simp only [↓hcsCl,entOf,go_sem,Nat.reduceAdd,Nat.reduceSub,Nat.reduceMul,Nat.reduceLT,Nat.reduceLeDiff,Nat.reduceEqDiff,Nat.reduceBEq,Nat.reduceBNe,List.reduceReplicate,reduceIte,reduceCtorEq,↓reduceIte]
  try simp only [td,reduceCtorEq]
  refine ⟨fun h0=>?_,fun i p hi=>?_⟩
  ·subst h0
   rw [← hs];exact (add3_zero _).symm
  ·have hil:=(List.getElem?_eq_some_iff.1 hi).1
   have hpH:p ∈ H:=hL p (List.mem_of_getElem? hi)
   obtain ⟨hr,hpl⟩:=hk p hpH
   have hpl:=placesB_iff.1 hpl
   unfold rl at hpl
   have hle:(L.eraseIdx i).length=L.length - 1:=List.length_eraseIdx_of_lt hil
   have hpk:=sumK_pick (rs:=rs) hi
   refine ⟨hr,(L.eraseIdx i,add3 (s1,s2,s3) (rl rs p.1)),by rw [hle];omega,⟨?_,fun k hk=>hL k (List.mem_of_mem_eraseIdx hk),by rw [hle];omega,?_⟩,rfl,?_⟩
   ·rw [add3_assoc,← hpk];exact hs
   ·rw [hle]
    unfold add3 rl
    dsimp only [dReq] at hpl ⊢
    omega
   ·unfold add3 rl
    dsimp only [dReq] at hpl ⊢
    exact ⟨i64_in _ (by omega),i64_in _ (by omega),i64_in _ (by omega)⟩
def entCHas:Ent:=⟨146,.cons (.mp .i64 .bool) (.cons (.int .i64) (.cons (.sl (.st (.cons (.int .i64) (.cons (.int .i64) (.cons (.int .i64) (.cons (.int .i64) (.cons (.int .i64) (.cons (.int .i64) (.cons (.int .i64) (.cons (.int .i64) (.cons (.int .i64) (.int .i64)))))))))))) .nil)),.bool,false,none,fun x=>∀ k ∈ (x.1:DMap),(0≤k.1∧k.1 < (x.2.2.1:List DReq).length),fun x=>(x.1:DMap).any fun k=>decide (((x.2.2.1:List DReq).getD k.1.toNat dReq).1=x.2.1)⟩
def csCh:List Ent:=[] theorem hcsCh (f:FuncId):findEnt csCh f=findEnt [] f:=rfl
theorem conCHas:Con Tryz.prog entCHas:=by
 refine con_is (C:=csCh) x146 (by kernel_rfl) (by simp [csCh]) fun x hx hf=>?_
 obtain ⟨(H:DMap),(m:Int),(rs:List DReq),_⟩:=x
 have hx:∀ k ∈ H,(0≤k.1∧k.1 < rs.length):=hx
 dsimp only [entCHas,x146];simp only [↓hcsCh,go_sem,Nat.reduceAdd,Nat.reduceSub,Nat.reduceMul,Nat.reduceLT,Nat.reduceLeDiff,Nat.reduceEqDiff,Nat.reduceBEq,Nat.reduceBNe,List.reduceReplicate,reduceIte,reduceCtorEq,↓reduceIte];try simp only [td,reduceCtorEq]
 refine XW_for 1000 x146_0d [] DMap (fun _=>[]) (fun s=>[(2,.it .i64 .bool s none)])
  (fun s=>(∀ k ∈ s,k ∈ H)∧s.any (fun k=>decide ((rs.getD k.1.toNat dReq).1=m))=H.any fun k=>decide ((rs.getD k.1.toNat dReq).1=m)) (fun s=>s.length) H ?_ ?_ ?_
 ·dsimp only [x146_0d]
  simp only [go_sem,Nat.reduceAdd,Nat.reduceSub,Nat.reduceMul,Nat.reduceLT,Nat.reduceLeDiff,Nat.reduceEqDiff,Nat.reduceBEq,Nat.reduceBNe,List.reduceReplicate,reduceIte,reduceCtorEq,↓reduceIte]
  try trivial
 ·exact ⟨fun k hk=>hk,rfl⟩
 ·rintro L ⟨hL,ha⟩
  dsimp only [x146_0,x146_0d]
  simp only [↓hcsCh,go_sem,Nat.reduceAdd,Nat.reduceSub,Nat.reduceMul,Nat.reduceLT,Nat.reduceLeDiff,Nat.reduceEqDiff,Nat.reduceBEq,Nat.reduceBNe,List.reduceReplicate,reduceIte,reduceCtorEq,↓reduceIte]
  try simp only [td,reduceCtorEq]
  refine ⟨fun h0=>by subst h0;exact ha,fun i p hi=>⟨hx p (hL p (List.mem_of_getElem? hi)),fun q=>?_,fun q=>⟨L.eraseIdx i,?_,⟨fun k hk=>hL k (List.mem_of_mem_eraseIdx hk),?_⟩,rfl⟩⟩⟩
  ·symm
   rw [List.any_eq_true]
   exact ⟨p,hL p (List.mem_of_getElem? hi),decide_eq_true q⟩
  ·have hil:=(List.getElem?_eq_some_iff.1 hi).1
   rw [List.length_eraseIdx_of_lt hil];omega
  ·rw [← ha]
   exact any_pick hi (decide_eq_false q)
end T
end Go.Proofs.YtecdcopihghnaaaGreat
end
section
namespace Go.Proofs.YtecdcopihghnaaaGreat
set_option linter.unusedVariables false
set_option linter.unusedSimpArgs false
open Go.RowKit Go.IntWalk
namespace T
theorem fst_keys (ks:List Int):(ks.map fun k=>(k,true)).map (fun x=>x.fst)=ks:=by rw [List.map_map];exact List.map_id _
theorem nodup_len:∀ {n:Nat} {ks:List Int},ks.Nodup→(∀ k ∈ ks,0≤k∧k < n)→ks.length≤n
 | 0,[],_,_=>Nat.le_refl _
 | 0,k :: r,_,h=>by have:=h k (by simp);omega
 | n+1,ks,hn,h=>by
  have h1:(kdel ks n).length≤n:=nodup_len (kdel_nodup hn) fun k hk=>by
   have:=(mem_kdel hn).1 hk
   have:=h k this.1
   omega
  have h2:∀ (k:Int) (ks:List Int),ks.length≤(kdel ks k).length+1:=fun k ks=>by
   induction ks with
   | nil=>simp
   | cons p r ih=>unfold kdel;split <;> simp <;> omega
  have:=h2 n ks
  omega
theorem look_ok {ss:List DStop} {rs:List DReq} (hr:RightS ss rs) {j:Nat} (hj:j≤ss.length):((cabK ss j).map fun k=>(k,true)).length≤30000∧∀ k ∈ (cabK ss j).map fun k=>(k,true),(0≤k.1∧k.1 < rs.length)∧placesB (rl rs k.1)=true:=by
 obtain ⟨h1,h2⟩:=cab_mem hr hj
 have h3:∀ k ∈ cabK ss j,(0≤k∧k < rs.length)∧placesB (rl rs k)=true:=fun k hk=>hr.in_req ((h2 k).1 hk)
 refine ⟨?_,fun k hk=>?_⟩
 ·rw [List.length_map]
  have:=nodup_len h1 fun k hk=>(h3 k hk).1
  have:=hr.1.2
  omega
 ·obtain ⟨x,hx,rfl⟩:=List.mem_map.1 hk
  exact h3 x hx
def entProf:Ent:=⟨140,.cons (.sl (.st (.cons (.int .i64) .bool))) (.cons (.sl (.st (.cons (.int .i64) (.cons (.int .i64) (.cons (.int .i64) (.cons (.int .i64) (.cons (.int .i64) (.cons (.int .i64) (.cons (.int .i64) (.cons (.int .i64) (.cons (.int .i64) (.int .i64)))))))))))) .nil),.cons (.sl (.st (.cons (.int .i64) (.cons (.int .i64) (.int .i64))))) (.cons (.int .i64) .nil),true,none,fun _=>True,fun x=>((profF x.1 x.2.1).1,(profF x.1 x.2.1).2,())⟩
def csPrf:List Ent:=[entRightS,entCLoad] theorem hcsPrf (f:FuncId):findEnt csPrf f=findEnt [entRightS,entCLoad] f:=rfl
theorem conProf:Con Tryz.prog entProf:=by
 refine con_is (C:=csPrf) x140 (by kernel_rfl) (by simp [csPrf,conRightS,conCLoad]) fun x hx hf=>?_
 obtain ⟨(ss:List DStop),(rs:List DReq),_⟩:=x
 have hl:ss.length≤9223372036854775807:=hf.1.1
 dsimp only [entProf,x140,x175,x179,x180,x176]
 simp only [↓hcsPrf,entRightS,entCLoad,go_sem,Nat.reduceAdd,Nat.reduceSub,Nat.reduceMul,Nat.reduceLT,Nat.reduceLeDiff,Nat.reduceEqDiff,Nat.reduceBEq,Nat.reduceBNe,List.reduceReplicate,reduceIte,reduceCtorEq,↓reduceIte];try simp only [td,reduceCtorEq]
 refine ⟨fun h=>by unfold profF;rw [if_neg (by rw [h];simp)],fun h=>?_⟩
 have hr:RightS ss rs:=of_decide_eq_true h
 have hl:ss.length≤80:=hr.1.1
 have hrl:rs.length≤30000:=hr.1.2
 refine XW_for 1000 x179_0d [0,1,9] Nat (fun j=>[(11,.val (.int .i64) (j:Int))]) (fun j=>[(12,.mp .i64 .bool ((dropsK (ss.take j)).map fun k=>(k,true)))])
  (fun j=>j≤ss.length) (fun j=>ss.length - j) 0 ?_ ?_ ?_
 ·dsimp only [x179_0d]
  simp only [go_sem,Nat.reduceAdd,Nat.reduceSub,Nat.reduceMul,Nat.reduceLT,Nat.reduceLeDiff,Nat.reduceEqDiff,Nat.reduceBEq,Nat.reduceBNe,List.reduceReplicate,reduceIte,reduceCtorEq,↓reduceIte]
  try trivial
 ·exact Nat.zero_le _
 ·rintro j hj
  dsimp only [x179_0,x179_0d]
  simp only [↓hcsPrf,entRightS,entCLoad,go_sem,Nat.reduceAdd,Nat.reduceSub,Nat.reduceMul,Nat.reduceLT,Nat.reduceLeDiff,Nat.reduceEqDiff,Nat.reduceBEq,Nat.reduceBNe,List.reduceReplicate,reduceIte,reduceCtorEq,↓reduceIte]
  try simp only [td,reduceCtorEq]
  by_cases hj':j < ss.length
  ·have w2:IntKind.i64.wrap ((j:Int)+1)=((j+1:Nat):Int):=i64_in _ (by omega)
   have hd:=dropsK_next hj'
   dsimp only [dStop] at hd
   simp only [hj',w2,mset_keys,td,reduceCtorEq]
   refine ⟨fun q=>⟨j+1,by omega,hj',rfl,?_⟩,fun q=>⟨j+1,by omega,hj',rfl,?_⟩⟩
   ·rw [hd,dropK,if_neg (by rw [q];simp)]
   ·rw [hd,dropK,if_pos q]
  obtain rfl:j=ss.length:=by omega
  rw [List.take_of_length_le (Nat.le_refl _)]
  simp only [hj',td,reduceCtorEq]
  refine XW_for 2000 x179_1d [0,1,9] Nat (fun j=>[(24,.val (.int .i64) (j:Int))]) (fun j=>[(12,.mp .i64 .bool ((firstK ss (ss.take j)).map fun k=>(k,true)))])
   (fun j=>j≤ss.length) (fun j=>ss.length - j) 0 ?_ ?_ ?_
  ·dsimp only [x179_1d]
   simp only [go_sem,Nat.reduceAdd,Nat.reduceSub,Nat.reduceMul,Nat.reduceLT,Nat.reduceLeDiff,Nat.reduceEqDiff,Nat.reduceBEq,Nat.reduceBNe,List.reduceReplicate,reduceIte,reduceCtorEq,↓reduceIte]
   try trivial
  ·exact Nat.zero_le _
  ·rintro j hj
   dsimp only [x179_1,x179_1d]
   simp only [↓hcsPrf,entRightS,entCLoad,go_sem,Nat.reduceAdd,Nat.reduceSub,Nat.reduceMul,Nat.reduceLT,Nat.reduceLeDiff,Nat.reduceEqDiff,Nat.reduceBEq,Nat.reduceBNe,List.reduceReplicate,reduceIte,reduceCtorEq,↓reduceIte]
   try simp only [td,reduceCtorEq]
   by_cases hj':j < ss.length
   ·have w2:IntKind.i64.wrap ((j:Int)+1)=((j+1:Nat):Int):=i64_in _ (by omega)
    have hd:=firstK_next (ss:=ss) hj'
    dsimp only [dStop] at hd
    simp only [hj',w2,mdel_keys,td,reduceCtorEq]
    refine ⟨fun q=>⟨j+1,by omega,hj',rfl,?_⟩,fun q=>⟨j+1,by omega,hj',rfl,?_⟩⟩
    ·rw [hd,pickK,if_pos q]
    ·rw [hd,pickK,if_neg (by rw [q];simp)]
   obtain rfl:j=ss.length:=by omega
   rw [List.take_of_length_le (Nat.le_refl _)]
   simp only [hj',fst_keys,td,reduceCtorEq]
   have hlook:∀ j,j≤ss.length→((cabK ss j).map fun k=>(k,true)).length≤30000∧∀ k ∈ (cabK ss j).map fun k=>(k,true),(0≤k.1∧k.1 < rs.length)∧placesB (rl rs k.1)=true:=fun j hj=>look_ok hr hj
   refine ⟨hlook 0 (Nat.zero_le _),?_⟩
   refine XW_for 3000 x175_0d [0,1,9] Nat (fun j=>[(17,.val (.int .i64) (j:Int)),(6,.own 2011)])
    (fun j=>[(2011,.row 181 (.st (.cons (.int .i64) (.cons (.int .i64) (.int .i64)))) ((List.range (j+1)).map fun i=>sumK rs (cabK ss i))),(12,.mp .i64 .bool ((cabK ss j).map fun k=>(k,true)))]) (fun j=>j≤ss.length) (fun j=>ss.length - j) 0 ?_ ?_ ?_
   ·dsimp only [x175_0d]
    simp only [go_sem,Nat.reduceAdd,Nat.reduceSub,Nat.reduceMul,Nat.reduceLT,Nat.reduceLeDiff,Nat.reduceEqDiff,Nat.reduceBEq,Nat.reduceBNe,List.reduceReplicate,reduceIte,reduceCtorEq,↓reduceIte]
    exact ⟨rfl,rfl,rfl⟩
   ·exact Nat.zero_le _
   ·rintro j hj
    dsimp only [x175_0,x175_0d,x180,x176]
    simp only [↓hcsPrf,entRightS,entCLoad,go_sem,Nat.reduceAdd,Nat.reduceSub,Nat.reduceMul,Nat.reduceLT,Nat.reduceLeDiff,Nat.reduceEqDiff,Nat.reduceBEq,Nat.reduceBNe,List.reduceReplicate,reduceIte,reduceCtorEq,↓reduceIte]
    try simp only [mset_keys,mdel_keys,fst_keys,td,reduceCtorEq]
    have w2:j < ss.length→IntKind.i64.wrap ((j:Int)+1)=((j+1:Nat):Int):=fun h=>i64_in _ (by omega)
    have hlen:(((List.range (j+1)).map fun i=>sumK rs (cabK ss i)).length+1) * 24≤140737488355328:=by rw [List.length_map,List.length_range];omega
    have hsucc:(List.range (j+1+1)).map (fun i=>sumK rs (cabK ss i))=(List.range (j+1)).map (fun i=>sumK rs (cabK ss i)) ++ [sumK rs (cabK ss (j+1))]:=by rw [List.range_succ,List.map_append];rfl
    have hst:cabK ss (j+1)=stopK (cabK ss j) (ss.getD j (0,false)):=rfl
    refine ⟨fun hj'=>⟨hj',fun q=>?_,fun q=>?_⟩,fun hj'=>?_⟩
    ·rw [stopK,if_pos q] at hst
     rw [← hst]
     exact ⟨hlook (j+1) hj',hlen,j+1,by omega,hj',w2 hj',hsucc.symm,rfl⟩
    ·rw [stopK,if_neg (by rw [q];simp)] at hst
     rw [← hst]
     exact ⟨hlook (j+1) hj',hlen,j+1,by omega,hj',w2 hj',hsucc.symm,rfl⟩
    ·obtain rfl:j=ss.length:=by omega
     unfold profF
     rw [if_pos h]
     unfold loadsF
     have:(List.range (ss.length+1)).map (fun i=>sumK rs (cabK ss i))=(List.range (ss.length+1)).map fun j=>afterF ss rs (j:Nat):=List.map_congr_left fun i hi=>cab_load hr (by rw [List.mem_range] at hi;omega)
     rw [this]
end T
end Go.Proofs.YtecdcopihghnaaaGreat
end
section
namespace Go.Proofs.YtecdcopihghnaaaGreat
set_option linter.unusedVariables false
set_option linter.unusedSimpArgs false
open Go.RowKit Go.IntWalk
namespace T
def entRProf:Ent:=⟨110,.cons (.sl (.st (.cons (.int .i64) .bool))) (.cons (.sl (.st (.cons (.int .i64) (.cons (.int .i64) (.cons (.int .i64) (.cons (.int .i64) (.cons (.int .i64) (.cons (.int .i64) (.cons (.int .i64) (.cons (.int .i64) (.cons (.int .i64) (.int .i64)))))))))))) .nil),.cons (.sl (.st (.cons (.int .i64) (.cons (.int .i64) (.int .i64))))) (.cons (.int .i64) .nil),true,none,fun _=>True,fun x=>((profF x.1 x.2.1).1,(profF x.1 x.2.1).2,())⟩
def csRprf:List Ent:=[entRRightS,entAfter] theorem hcsRprf (f:FuncId):findEnt csRprf f=findEnt [entRRightS,entAfter] f:=rfl
theorem conRProf:Con Tryz.prog entRProf:=by
 refine con_is (C:=csRprf) x110 (by kernel_rfl) (by simp [csRprf,conRRightS,conAfter]) fun x hx hf=>?_
 obtain ⟨(ss:List DStop),(rs:List DReq),_⟩:=x
 dsimp only [entRProf,x110];simp only [↓hcsRprf,entRRightS,entAfter,go_sem,Nat.reduceAdd,Nat.reduceSub,Nat.reduceMul,Nat.reduceLT,Nat.reduceLeDiff,Nat.reduceEqDiff,Nat.reduceBEq,Nat.reduceBNe,List.reduceReplicate,reduceIte,reduceCtorEq,↓reduceIte];try simp only [td,reduceCtorEq]
 refine ⟨fun h=>by unfold profF;rw [if_neg (by rw [h];simp)],fun h=>?_⟩
 have hr:RightS ss rs:=of_decide_eq_true h
 have hl:ss.length≤80:=hr.1.1
 refine XW_for 1000 x110_0d [0] Nat (fun j=>[(7,.val (.int .i64) (j:Int)),(6,.own 6)]) (fun j=>[(6,.row 161 (.st (.cons (.int .i64) (.cons (.int .i64) (.int .i64)))) ((List.range j).map fun i=>afterF ss rs (i:Nat)))])
  (fun j=>j≤ss.length+1) (fun j=>ss.length+1 - j) 0 ?_ ?_ ?_
 ·dsimp only [x110_0d]
  simp only [go_sem,Nat.reduceAdd,Nat.reduceSub,Nat.reduceMul,Nat.reduceLT,Nat.reduceLeDiff,Nat.reduceEqDiff,Nat.reduceBEq,Nat.reduceBNe,List.reduceReplicate,reduceIte,reduceCtorEq,↓reduceIte]
  try trivial
 ·exact Nat.zero_le _
 ·rintro j hj
  dsimp only [x110_0,x110_0d]
  simp only [↓hcsRprf,entRRightS,entAfter,h,go_sem,Nat.reduceAdd,Nat.reduceSub,Nat.reduceMul,Nat.reduceLT,Nat.reduceLeDiff,Nat.reduceEqDiff,Nat.reduceBEq,Nat.reduceBNe,List.reduceReplicate,reduceIte,reduceCtorEq,↓reduceIte]
  try simp only [td,reduceCtorEq]
  have w2:j≤ss.length→IntKind.i64.wrap ((j:Int)+1)=((j+1:Nat):Int):=fun h=>i64_in _ (by omega)
  have hsucc:(List.range (j+1)).map (fun i=>afterF ss rs (i:Nat))=(List.range j).map (fun i=>afterF ss rs (i:Nat)) ++ [afterF ss rs (j:Nat)]:=by rw [List.range_succ,List.map_append];rfl
  refine ⟨fun hj'=>⟨by rw [List.length_map,List.length_range];omega,j+1,by omega,by omega,w2 (by omega),hsucc.symm⟩,fun hj'=>?_⟩
  obtain rfl:j=ss.length+1:=by omega
  unfold profF
  rw [if_pos h]
  rfl
def entIxf:Ent:=⟨142,.cons (.sl (.st (.cons (.int .i64) (.cons (.int .i64) (.int .i64))))) (.cons (.fn (.st (.cons (.int .i64) (.cons (.int .i64) (.int .i64)))) .bool) .nil),(.int .i64),false,none,fun _=>True,fun x=>idxF (x.2.1:DLoad→Bool) (x.1:List DLoad)⟩
def csIxf:List Ent:=[] theorem hcsIxf (f:FuncId):findEnt csIxf f=findEnt [] f:=rfl
theorem conIxf:Con Tryz.prog entIxf:=by
 refine con_is (C:=csIxf) x142 (by kernel_rfl) (by simp [csIxf]) fun x hx hf=>?_
 obtain ⟨(l:List DLoad),(F:DLoad→Bool),_⟩:=x
 have hl:l.length≤9223372036854775807:=hf.1.1
 dsimp only [entIxf,x142];simp only [↓hcsIxf,go_sem,Nat.reduceAdd,Nat.reduceSub,Nat.reduceMul,Nat.reduceLT,Nat.reduceLeDiff,Nat.reduceEqDiff,Nat.reduceBEq,Nat.reduceBNe,List.reduceReplicate,reduceIte,reduceCtorEq,↓reduceIte];try simp only [td,reduceCtorEq]
 refine XW_for 1000 x142_0d [] Nat (fun j=>[(8,.val (.int .i64) (j:Int))]) (fun _=>[]) (fun j=>j≤l.length∧∀ i,i < j→F (l.getD i (0,0,0))=false) (fun j=>l.length - j) 0 ?_ ?_ ?_
 ·dsimp only [x142_0d]
  simp only [go_sem,Nat.reduceAdd,Nat.reduceSub,Nat.reduceMul,Nat.reduceLT,Nat.reduceLeDiff,Nat.reduceEqDiff,Nat.reduceBEq,Nat.reduceBNe,List.reduceReplicate,reduceIte,reduceCtorEq,↓reduceIte]
  try rfl
 ·exact ⟨Nat.zero_le _,fun i hi=>by omega⟩
 ·rintro j ⟨hj,hn⟩
  dsimp only [x142_0,x142_0d]
  simp only [↓hcsIxf,go_sem,Nat.reduceAdd,Nat.reduceSub,Nat.reduceMul,Nat.reduceLT,Nat.reduceLeDiff,Nat.reduceEqDiff,Nat.reduceBEq,Nat.reduceBNe,List.reduceReplicate,reduceIte,reduceCtorEq,↓reduceIte]
  try simp only [td,reduceCtorEq]
  have w2:j < l.length→IntKind.i64.wrap ((j:Int)+1)=((j+1:Nat):Int):=fun h=>i64_in _ (by omega)
  refine ⟨fun hj'=>⟨hj',fun q=>(idxF_at hj' hn q).symm,fun q=>⟨j+1,by omega,⟨hj',fun i hi=>?_⟩,w2 hj'⟩⟩,fun hj'=>(idxF_none fun i hi=>hn i (by omega)).symm⟩
  by_cases c:i=j
  ·subst c;exact q
  ·exact hn i (by omega)
def entOver:Ent:=⟨143,.cons (.st (.cons (.int .i64) (.cons (.int .i64) (.int .i64)))) (.cons (.ptr (.st (.cons (.int .i64) (.cons (.int .i64) (.cons (.int .i64) (.cons (.int .i64) (.cons (.int .i64) (.cons (.int .i64) (.cons (.int .i64) (.cons (.int .i64) (.int .i64))))))))))) .nil),.bool,false,none,fun _=>True,fun x=>overB x.1 (carLoad x.2.1)⟩
def csOv:List Ent:=[] theorem hcsOv (f:FuncId):findEnt csOv f=findEnt [] f:=rfl
theorem conOver:Con Tryz.prog entOver:=by
 refine con_is (C:=csOv) x143 (by kernel_rfl) (by simp [csOv]) fun x hx hf=>?_
 obtain ⟨⟨(a:Int),(b:Int),(c:Int)⟩,⟨(c1:Int),(c2:Int),(c3:Int),(c4:Int),(c5:Int),(c6:Int),(c7:Int),(c8:Int),(c9:Int)⟩,_⟩:=x
 dsimp only [entOver,x143];simp only [↓hcsOv,go_sem,Nat.reduceAdd,Nat.reduceSub,Nat.reduceMul,Nat.reduceLT,Nat.reduceLeDiff,Nat.reduceEqDiff,Nat.reduceBEq,Nat.reduceBNe,List.reduceReplicate,reduceIte,reduceCtorEq,↓reduceIte];try simp only [td,reduceCtorEq]
 unfold overB carLoad
 rw [Bool.or_assoc]
def entFits:Ent:=⟨83,.cons (.st (.cons (.int .i64) (.cons (.int .i64) (.cons (.int .i64) (.cons (.int .i64) (.cons (.int .i64) (.cons (.int .i64) (.cons (.int .i64) (.cons (.int .i64) (.int .i64)))))))))) (.cons (.sl (.st (.cons (.int .i64) .bool))) (.cons (.sl (.st (.cons (.int .i64) (.cons (.int .i64) (.cons (.int .i64) (.cons (.int .i64) (.cons (.int .i64) (.cons (.int .i64) (.cons (.int .i64) (.cons (.int .i64) (.cons (.int .i64) (.int .i64)))))))))))) .nil)),.cons (.int .i64) (.cons (.int .i64) .nil),true,none,fun _=>True,fun x=>((fitsF (carLoad x.1) x.2.1 x.2.2.1).1,(fitsF (carLoad x.1) x.2.1 x.2.2.1).2,())⟩
def csFts:List Ent:=[entProf,entPlaces,entIxf,entOver] theorem hcsFts (f:FuncId):findEnt csFts f=findEnt [entProf,entPlaces,entIxf,entOver] f:=rfl
theorem conFits:Con Tryz.prog entFits:=by
 refine con_is (C:=csFts) x83 (by kernel_rfl) (by simp [csFts,conProf,conPlaces,conIxf,conOver]) fun x hx hf=>?_
 obtain ⟨⟨(c1:Int),(c2:Int),(c3:Int),(c4:Int),(c5:Int),(c6:Int),(c7:Int),(c8:Int),(c9:Int)⟩,(ss:List DStop),(rs:List DReq),_⟩:=x
 dsimp only [entFits,x83];simp only [↓hcsFts,entProf,entPlaces,entIxf,entOver,go_sem,Nat.reduceAdd,Nat.reduceSub,Nat.reduceMul,Nat.reduceLT,Nat.reduceLeDiff,Nat.reduceEqDiff,Nat.reduceBEq,Nat.reduceBNe,List.reduceReplicate,reduceIte,reduceCtorEq,↓reduceIte];try simp only [td,reduceCtorEq]
 refine ⟨fun q=>by rw [fits_bad (c:=carLoad (c1,c2,c3,c4,c5,c6,c7,c8,c9)) q],fun q=>⟨fun z=>by rw [fits_full (c:=carLoad (c1,c2,c3,c4,c5,c6,c7,c8,c9)) q z];rfl,fun z=>by rw [fits_ok (c:=carLoad (c1,c2,c3,c4,c5,c6,c7,c8,c9)) q z]⟩⟩
def entRFits:Ent:=⟨57,.cons (.st (.cons (.int .i64) (.cons (.int .i64) (.cons (.int .i64) (.cons (.int .i64) (.cons (.int .i64) (.cons (.int .i64) (.cons (.int .i64) (.cons (.int .i64) (.int .i64)))))))))) (.cons (.sl (.st (.cons (.int .i64) .bool))) (.cons (.sl (.st (.cons (.int .i64) (.cons (.int .i64) (.cons (.int .i64) (.cons (.int .i64) (.cons (.int .i64) (.cons (.int .i64) (.cons (.int .i64) (.cons (.int .i64) (.cons (.int .i64) (.int .i64)))))))))))) .nil)),.cons (.int .i64) (.cons (.int .i64) .nil),true,none,fun _=>True,fun x=>((fitsF (carLoad x.1) x.2.1 x.2.2.1).1,(fitsF (carLoad x.1) x.2.1 x.2.2.1).2,())⟩
def csRft:List Ent:=[entRProf,entPlace] theorem hcsRft (f:FuncId):findEnt csRft f=findEnt [entRProf,entPlace] f:=rfl
theorem conRFits:Con Tryz.prog entRFits:=by
 refine con_is (C:=csRft) x57 (by kernel_rfl) (by simp [csRft,conRProf,conPlace]) fun x hx hf=>?_
 obtain ⟨⟨(c1:Int),(c2:Int),(c3:Int),(c4:Int),(c5:Int),(c6:Int),(c7:Int),(c8:Int),(c9:Int)⟩,(ss:List DStop),(rs:List DReq),_⟩:=x
 dsimp only [entRFits,x57];simp only [↓hcsRft,entRProf,entPlace,go_sem,Nat.reduceAdd,Nat.reduceSub,Nat.reduceMul,Nat.reduceLT,Nat.reduceLeDiff,Nat.reduceEqDiff,Nat.reduceBEq,Nat.reduceBNe,List.reduceReplicate,reduceIte,reduceCtorEq,↓reduceIte];try simp only [td,reduceCtorEq]
 have hlen:=profF_len (ss:=ss) (rs:=rs)
 refine ⟨fun q=>by rw [fits_bad (by rcases q with ((q | q) | q) | q <;> simp [placesB,carLoad,q])],fun q=>?_⟩
 have hq:(profF ss rs).2=0∧placesB (carLoad (c1,c2,c3,c4,c5,c6,c7,c8,c9))=true:=⟨q.1.1.1,by simp [placesB,carLoad,q.1.1.2,q.1.2,q.2]⟩
 refine XW_for 1000 x57_0d [0] Nat (fun j=>[(10,.val (.int .i64) (j:Int))]) (fun _=>[]) (fun j=>j≤(profF ss rs).1.length∧∀ i,i < j→overB ((profF ss rs).1.getD i (0,0,0)) (c5,c6,c7)=false) (fun j=>(profF ss rs).1.length - j) 0 ?_ ?_ ?_
 ·dsimp only [x57_0d]
  simp only [go_sem,Nat.reduceAdd,Nat.reduceSub,Nat.reduceMul,Nat.reduceLT,Nat.reduceLeDiff,Nat.reduceEqDiff,Nat.reduceBEq,Nat.reduceBNe,List.reduceReplicate,reduceIte,reduceCtorEq,↓reduceIte]
  try rfl
 ·exact ⟨Nat.zero_le _,fun i hi=>by omega⟩
 ·rintro j ⟨hj,hn⟩
  have e1:=fits_full hq
  have e2:=fits_ok hq
  generalize fitsF (carLoad (c1,c2,c3,c4,c5,c6,c7,c8,c9)) ss rs=R at e1 e2 ⊢
  have eo:overF (carLoad (c1,c2,c3,c4,c5,c6,c7,c8,c9)) (profF ss rs).1=idxF (fun x=>overB x (c5,c6,c7)) (profF ss rs).1:=rfl
  rw [eo] at e1 e2
  generalize (profF ss rs).1=l at hlen hj hn e1 e2 ⊢
  dsimp only [x57_0,x57_0d]
  simp only [↓hcsRft,go_sem,Nat.reduceAdd,Nat.reduceSub,Nat.reduceMul,Nat.reduceLT,Nat.reduceLeDiff,Nat.reduceEqDiff,Nat.reduceBEq,Nat.reduceBNe,List.reduceReplicate,reduceIte,reduceCtorEq,↓reduceIte]
  try simp only [td,reduceCtorEq]
  have w2:j < l.length→IntKind.i64.wrap ((j:Int)+1)=((j+1:Nat):Int):=fun h=>i64_in _ (by omega)
  have ho:∀ x:DLoad,overB x (c5,c6,c7)=true ↔ (c5 < x.1∨c6 < x.2.1)∨c7 < x.2.2:=fun x=>by simp [overB,or_assoc]
  refine ⟨fun hj'=>⟨⟨hj',fun q=>⟨q,hj'⟩,fun q=>⟨q,hj'⟩⟩,fun q=>?_,fun q=>⟨j+1,by omega,⟨hj',fun i hi=>?_⟩,w2 hj'⟩⟩,fun hj'=>?_⟩
  ·have:=idxF_at (p:=fun x=>overB x (c5,c6,c7)) hj' hn ((ho _).2 q)
   rw [this] at e1
   rw [e1 (by omega)]
  ·by_cases c:i=j
   ·subst c
    rw [Bool.eq_false_iff]
    intro z
    have:=(ho _).1 z
    omega
   ·exact hn i (by omega)
  ·have:=idxF_none (p:=fun x=>overB x (c5,c6,c7)) (d:=(0,0,0)) fun i hi=>hn i (by omega)
   rw [this] at e2
   rw [e2 (by omega)]
end T
end Go.Proofs.YtecdcopihghnaaaGreat
end
section
namespace Go.Proofs.YtecdcopihghnaaaGreat
set_option linter.unusedVariables false
set_option linter.unusedSimpArgs false
open Go.RowKit Go.IntWalk
namespace T
theorem look_in {ss:List DStop} {rs:List DReq} (hr:RightS ss rs) {j:Nat} (hj:j≤ss.length):∀ k ∈ (cabK ss j).map fun k=>(k,true),0≤k.1∧k.1 < rs.length:=fun k hk=>by
 obtain ⟨x,hx,rfl⟩:=List.mem_map.1 hk
 exact (hr.in_req (((cab_mem hr hj).2 x).1 hx)).1
theorem any_rides {ss:List DStop} {rs:List DReq} (hr:RightS ss rs) {j:Nat} (hj:j≤ss.length) (m:Int):((cabK ss j).map fun k=>(k,true)).any (fun k=>decide ((rs.getD k.1.toNat dReq).1=m))=ridesB ss rs m j:=by
 rw [Bool.eq_iff_iff]
 unfold ridesB
 simp only [List.any_eq_true,List.mem_map,List.mem_range,Bool.and_eq_true,decide_eq_true_eq]
 constructor
 ·rintro ⟨_,⟨x,hx,rfl⟩,h⟩
  have h2:=((cab_mem hr hj).2 x).1 hx
  have h3:=(hr.in_req h2).1
  refine ⟨x.toNat,by omega,h,?_⟩
  rw [Int.toNat_of_nonneg h3.1];exact h2
 ·rintro ⟨i,hi,h1,h2⟩
  exact ⟨((i:Int),true),⟨i,((cab_mem hr hj).2 i).2 h2,rfl⟩,h1⟩
def entRTog:Ent:=⟨58,.cons (.sl (.st (.cons (.int .i64) (.cons (.int .i64) .bool)))) (.cons (.sl (.st (.cons (.int .i64) .bool))) (.cons (.sl (.st (.cons (.int .i64) (.cons (.int .i64) (.cons (.int .i64) (.cons (.int .i64) (.cons (.int .i64) (.cons (.int .i64) (.cons (.int .i64) (.cons (.int .i64) (.cons (.int .i64) (.int .i64)))))))))))) .nil)),.bool,false,none,fun _=>True,fun x=>togF x.1 x.2.1 x.2.2.1⟩
def csRtg:List Ent:=[entRRightS,entRides] theorem hcsRtg (f:FuncId):findEnt csRtg f=findEnt [entRRightS,entRides] f:=rfl
theorem conRTog:Con Tryz.prog entRTog:=by
 refine con_is (C:=csRtg) x58 (by kernel_rfl) (by simp [csRtg,conRRightS,conRides]) fun x hx hf=>?_
 obtain ⟨(ps:List DPair),(ss:List DStop),(rs:List DReq),_⟩:=x
 have hpl:ps.length≤9223372036854775807:=hf.1.1
 dsimp only [entRTog,x58];simp only [↓hcsRtg,entRRightS,entRides,go_sem,Nat.reduceAdd,Nat.reduceSub,Nat.reduceMul,Nat.reduceLT,Nat.reduceLeDiff,Nat.reduceEqDiff,Nat.reduceBEq,Nat.reduceBNe,List.reduceReplicate,reduceIte,reduceCtorEq,↓reduceIte];try simp only [td,reduceCtorEq]
 refine ⟨fun h=>by unfold togF;rw [h];rfl,fun h=>?_⟩
 have hr:RightS ss rs:=of_decide_eq_true h
 have hl:ss.length≤80:=hr.1.1
 refine XW_for 1000 x58_0d [] Nat (fun j=>[(7,.val (.int .i64) (j:Int))]) (fun j=>[]) (fun n=>n≤ps.length∧∀ i,i < n→pairB ss rs (ps.getD i (0,0,false))=true) (fun j=>ps.length - j) 0 ?_ ?_ ?_
 ·dsimp only [x58_0d]
  simp only [go_sem,Nat.reduceAdd,Nat.reduceSub,Nat.reduceMul,Nat.reduceLT,Nat.reduceLeDiff,Nat.reduceEqDiff,Nat.reduceBEq,Nat.reduceBNe,List.reduceReplicate,reduceIte,reduceCtorEq,↓reduceIte]
  rfl
 ·exact ⟨Nat.zero_le _,fun i hi=>by omega⟩
 ·rintro n ⟨hn,hok⟩
  dsimp only [x58_0,x58_0d]
  simp only [↓hcsRtg,entRRightS,entRides,h,go_sem,Nat.reduceAdd,Nat.reduceSub,Nat.reduceMul,Nat.reduceLT,Nat.reduceLeDiff,Nat.reduceEqDiff,Nat.reduceBEq,Nat.reduceBNe,List.reduceReplicate,reduceIte,reduceCtorEq,↓reduceIte]
  try simp only [td,reduceCtorEq]
  refine ⟨fun hn'=>?_,fun hn'=>tog_yes h fun i hi=>hok i (by omega)⟩
  have hpi:ps.getD n (0,0,false) ∈ ps:=by simp [List.getD,hn']
  have hno:=tog_no (rs:=rs) (ss:=ss) hn'
  have hyes:pairB ss rs (ps.getD n (0,0,false))=true→∀ i,i < n+1→pairB ss rs (ps.getD i (0,0,false))=true:=fun q i hi=>by
   by_cases c:i=n
   ·rw [c];exact q
   ·exact hok i (by omega)
  have wn:IntKind.i64.wrap ((n:Int)+1)=((n+1:Nat):Int):=i64_in _ (by omega)
  refine XW_for 2000 x58_1d [] Nat (fun j=>[(10,.val (.int .i64) (j:Int)),(8,.val .bool (someTo ss rs (ps.getD n (0,0,false)) j)),(9,.val .bool (bothTo ss rs (ps.getD n (0,0,false)) j))]) (fun _=>[]) (fun j=>j≤ss.length+1) (fun j=>ss.length+1 - j) 0 ?_ ?_ ?_
  ·dsimp only [x58_1d]
   simp only [go_sem,Nat.reduceAdd,Nat.reduceSub,Nat.reduceMul,Nat.reduceLT,Nat.reduceLeDiff,Nat.reduceEqDiff,Nat.reduceBEq,Nat.reduceBNe,List.reduceReplicate,reduceIte,reduceCtorEq,↓reduceIte]
   exact ⟨rfl,rfl,rfl⟩
  ·exact Nat.zero_le _
  ·rintro j hj
   have e1:=someTo_next ss rs (ps.getD n (0,0,false)) j
   have e2:=bothTo_next ss rs (ps.getD n (0,0,false)) j
   have e3:j=ss.length+1→someB ss rs (ps.getD n (0,0,false))=someTo ss rs (ps.getD n (0,0,false)) j:=fun e=>by rw [e];rfl
   have e4:j=ss.length+1→bothB ss rs (ps.getD n (0,0,false))=bothTo ss rs (ps.getD n (0,0,false)) j:=fun e=>by rw [e];rfl
   have e5:pairB ss rs (ps.getD n (0,0,false))=if (ps.getD n (0,0,false)).2.2=true then !someB ss rs (ps.getD n (0,0,false)) || bothB ss rs (ps.getD n (0,0,false)) else !bothB ss rs (ps.getD n (0,0,false)):=rfl
   dsimp only [x58_1,x58_1d]
   simp only [↓hcsRtg,entRRightS,entRides,h,hn',go_sem,Nat.reduceAdd,Nat.reduceSub,Nat.reduceMul,Nat.reduceLT,Nat.reduceLeDiff,Nat.reduceEqDiff,Nat.reduceBEq,Nat.reduceBNe,List.reduceReplicate,reduceIte,reduceCtorEq,↓reduceIte]
   try simp only [td,reduceCtorEq]
   have w2:j≤ss.length→IntKind.i64.wrap ((j:Int)+1)=((j+1:Nat):Int):=fun h=>i64_in _ (by omega)
   refine ⟨fun hj'=>⟨hn',hn',fun q=>⟨q,fun z=>⟨q,z⟩⟩,j+1,by omega,by omega,w2 (by omega),e1.symm,e2.symm⟩,fun hj'=>?_⟩
   have hje:j=ss.length+1:=by omega
   rw [← e3 hje,← e4 hje]
   generalize someB ss rs (ps.getD n (0,0,false))=sm at e5 ⊢
   generalize bothB ss rs (ps.getD n (0,0,false))=bt at e5 ⊢
   refine ⟨⟨hn',fun q=>⟨q,fun z=>⟨q,z⟩⟩⟩,fun q=>hno ?_,fun q=>⟨n+1,by omega,⟨hn',hyes ?_⟩,wn⟩⟩
   ·rw [e5]
    generalize (ps.getD n (0,0,false)).2.2=pm at q ⊢
    cases pm <;> cases bt <;> cases sm <;> simp_all
   ·rw [e5]
    generalize (ps.getD n (0,0,false)).2.2=pm at q ⊢
    cases pm <;> cases bt <;> cases sm <;> simp_all
def entTog:Ent:=⟨84,.cons (.sl (.st (.cons (.int .i64) (.cons (.int .i64) .bool)))) (.cons (.sl (.st (.cons (.int .i64) .bool))) (.cons (.sl (.st (.cons (.int .i64) (.cons (.int .i64) (.cons (.int .i64) (.cons (.int .i64) (.cons (.int .i64) (.cons (.int .i64) (.cons (.int .i64) (.cons (.int .i64) (.cons (.int .i64) (.int .i64)))))))))))) .nil)),.bool,false,none,fun _=>True,fun x=>togF x.1 x.2.1 x.2.2.1⟩
def csTog:List Ent:=[entRightS,entCHas] theorem hcsTog (f:FuncId):findEnt csTog f=findEnt [entRightS,entCHas] f:=rfl
theorem conTog:Con Tryz.prog entTog:=by
 refine con_is (C:=csTog) x84 (by kernel_rfl) (by simp [csTog,conRightS,conCHas]) fun x hx hf=>?_
 obtain ⟨(ps:List DPair),(ss:List DStop),(rs:List DReq),_⟩:=x
 have hpl:ps.length≤9223372036854775807:=hf.1.1
 dsimp only [entTog,x84];simp only [↓hcsTog,entRightS,entCHas,go_sem,Nat.reduceAdd,Nat.reduceSub,Nat.reduceMul,Nat.reduceLT,Nat.reduceLeDiff,Nat.reduceEqDiff,Nat.reduceBEq,Nat.reduceBNe,List.reduceReplicate,reduceIte,reduceCtorEq,↓reduceIte];try simp only [td,reduceCtorEq]
 refine ⟨fun h=>by unfold togF;rw [h];rfl,fun h=>?_⟩
 have hr:RightS ss rs:=of_decide_eq_true h
 have hl:ss.length≤80:=hr.1.1
 refine XW_for 1000 x84_0d [0] Nat (fun j=>[(17,.val (.int .i64) (j:Int))]) (fun j=>[]) (fun n=>n≤ps.length∧∀ i,i < n→pairB ss rs (ps.getD i (0,0,false))=true) (fun j=>ps.length - j) 0 ?_ ?_ ?_
 ·dsimp only [x84_0d]
  simp only [go_sem,Nat.reduceAdd,Nat.reduceSub,Nat.reduceMul,Nat.reduceLT,Nat.reduceLeDiff,Nat.reduceEqDiff,Nat.reduceBEq,Nat.reduceBNe,List.reduceReplicate,reduceIte,reduceCtorEq,↓reduceIte]
  rfl
 ·exact ⟨Nat.zero_le _,fun i hi=>by omega⟩
 ·rintro n ⟨hn,hok⟩
  by_cases hn':n < ps.length
  case neg =>
   dsimp only [x84_0,x84_0d]
   simp only [↓hcsTog,entRightS,entCHas,go_sem,Nat.reduceAdd,Nat.reduceSub,Nat.reduceMul,Nat.reduceLT,Nat.reduceLeDiff,Nat.reduceEqDiff,Nat.reduceBEq,Nat.reduceBNe,List.reduceReplicate,reduceIte,reduceCtorEq,↓reduceIte]
   simp only [td,reduceCtorEq]
   exact ⟨fun q=>absurd q hn',fun _=>tog_yes h fun i hi=>hok i (by omega)⟩
  have hno:=tog_no (rs:=rs) (ss:=ss) hn'
  have hyes:pairB ss rs (ps.getD n (0,0,false))=true→∀ i,i < n+1→pairB ss rs (ps.getD i (0,0,false))=true:=fun q i hi=>by
   by_cases c:i=n
   ·rw [c];exact q
   ·exact hok i (by omega)
  have wn:IntKind.i64.wrap ((n:Int)+1)=((n+1:Nat):Int):=i64_in _ (by omega)
  generalize hp:ps.getD n (0,0,false)=p at hno hyes
  obtain ⟨pa,pb,pm⟩:=p
  dsimp only [x84_0,x84_0d,x144,x179,x180,x145]
  simp only [↓hcsTog,entRightS,entCHas,h,hn',hp,wn,go_sem,Nat.reduceAdd,Nat.reduceSub,Nat.reduceMul,Nat.reduceLT,Nat.reduceLeDiff,Nat.reduceEqDiff,Nat.reduceBEq,Nat.reduceBNe,List.reduceReplicate,reduceIte,reduceCtorEq,↓reduceIte]
  try simp only [td,reduceCtorEq]
  refine ⟨fun _=>⟨hn',?_⟩,fun q=>absurd hn' q⟩
  refine XW_for 2000 x179_0d [0,1003,1005,1006,1011] Nat (fun j=>[(11,.val (.int .i64) (j:Int))]) (fun j=>[(1014,.mp .i64 .bool ((dropsK (ss.take j)).map fun k=>(k,true)))])
   (fun j=>j≤ss.length) (fun j=>ss.length - j) 0 ?_ ?_ ?_
  ·dsimp only [x179_0d]
   simp only [go_sem,Nat.reduceAdd,Nat.reduceSub,Nat.reduceMul,Nat.reduceLT,Nat.reduceLeDiff,Nat.reduceEqDiff,Nat.reduceBEq,Nat.reduceBNe,List.reduceReplicate,reduceIte,reduceCtorEq,↓reduceIte]
   try trivial
  ·exact Nat.zero_le _
  ·rintro j hj
   dsimp only [x179_0,x179_0d]
   simp only [↓hcsTog,entRightS,entCHas,go_sem,Nat.reduceAdd,Nat.reduceSub,Nat.reduceMul,Nat.reduceLT,Nat.reduceLeDiff,Nat.reduceEqDiff,Nat.reduceBEq,Nat.reduceBNe,List.reduceReplicate,reduceIte,reduceCtorEq,↓reduceIte]
   try simp only [td,reduceCtorEq]
   by_cases hj':j < ss.length
   ·have w2:IntKind.i64.wrap ((j:Int)+1)=((j+1:Nat):Int):=i64_in _ (by omega)
    have hd:=dropsK_next hj'
    dsimp only [dStop] at hd
    simp only [hj',w2,mset_keys,td,reduceCtorEq]
    refine ⟨fun q=>⟨j+1,by omega,hj',rfl,?_⟩,fun q=>⟨j+1,by omega,hj',rfl,?_⟩⟩
    ·rw [hd,dropK,if_neg (by rw [q];simp)]
    ·rw [hd,dropK,if_pos q]
   obtain rfl:j=ss.length:=by omega
   rw [List.take_of_length_le (Nat.le_refl _)]
   simp only [hj',td,reduceCtorEq]
   refine XW_for 3000 x179_1d [0,1003,1005,1006,1011] Nat (fun j=>[(24,.val (.int .i64) (j:Int))]) (fun j=>[(1014,.mp .i64 .bool ((firstK ss (ss.take j)).map fun k=>(k,true)))])
    (fun j=>j≤ss.length) (fun j=>ss.length - j) 0 ?_ ?_ ?_
   ·dsimp only [x179_1d]
    simp only [go_sem,Nat.reduceAdd,Nat.reduceSub,Nat.reduceMul,Nat.reduceLT,Nat.reduceLeDiff,Nat.reduceEqDiff,Nat.reduceBEq,Nat.reduceBNe,List.reduceReplicate,reduceIte,reduceCtorEq,↓reduceIte]
    try trivial
   ·exact Nat.zero_le _
   ·rintro j hj
    dsimp only [x179_1,x179_1d]
    simp only [↓hcsTog,entRightS,entCHas,go_sem,Nat.reduceAdd,Nat.reduceSub,Nat.reduceMul,Nat.reduceLT,Nat.reduceLeDiff,Nat.reduceEqDiff,Nat.reduceBEq,Nat.reduceBNe,List.reduceReplicate,reduceIte,reduceCtorEq,↓reduceIte]
    try simp only [td,reduceCtorEq]
    by_cases hj':j < ss.length
    ·have w2:IntKind.i64.wrap ((j:Int)+1)=((j+1:Nat):Int):=i64_in _ (by omega)
     have hd:=firstK_next (ss:=ss) hj'
     dsimp only [dStop] at hd
     simp only [hj',w2,mdel_keys,td,reduceCtorEq]
     refine ⟨fun q=>⟨j+1,by omega,hj',rfl,?_⟩,fun q=>⟨j+1,by omega,hj',rfl,?_⟩⟩
     ·rw [hd,pickK,if_pos q]
     ·rw [hd,pickK,if_neg (by rw [q];simp)]
    obtain rfl:j=ss.length:=by omega
    rw [List.take_of_length_le (Nat.le_refl _)]
    simp only [hj',td,reduceCtorEq]
    have hri0:∀ m,((firstK ss ss).map fun k=>(k,true)).any (fun k=>decide ((rs.getD k.1.toNat dReq).1=m))=ridesB ss rs m 0:=fun m=>any_rides hr (Nat.zero_le _) m
    have hlk0:=(look_in hr (Nat.zero_le _):∀ k ∈ (cabK ss 0).map fun k=>(k,true),0≤k.1∧k.1 < rs.length)
    dsimp only [dReq] at hri0
    simp only [hri0]
    refine ⟨hlk0,?_⟩
    refine XW_for 4000 x144_0d [0,1003,1011] (Nat × List Bool) (fun s=>[(17,.val (.int .i64) (s.1:Int)),(6,.own 3037)])
     (fun s=>[(3037,.row 4 .bool s.2),(1006,.box 4 [.val .bool (bothTo ss rs (pa,pb,pm) (s.1+1))]),(1005,.box 4 [.val .bool (someTo ss rs (pa,pb,pm) (s.1+1))]),(1014,.mp .i64 .bool ((cabK ss s.1).map fun k=>(k,true)))]) (fun s=>s.1≤ss.length∧s.2.length=s.1+1) (fun s=>ss.length - s.1) (0,[ridesB ss rs pa 0 && ridesB ss rs pb 0]) ?_ ?_ ?_
    ·dsimp only [x144_0d]
     simp only [go_sem,Nat.reduceAdd,Nat.reduceSub,Nat.reduceMul,Nat.reduceLT,Nat.reduceLeDiff,Nat.reduceEqDiff,Nat.reduceBEq,Nat.reduceBNe,List.reduceReplicate,reduceIte,reduceCtorEq,↓reduceIte]
     have e1:(ridesB ss rs pa 0 && ridesB ss rs pb 0)=bothTo ss rs (pa,pb,pm) 1:=by rw [bothTo_next];rfl
     have e2:(ridesB ss rs pa 0 || ridesB ss rs pb 0)=someTo ss rs (pa,pb,pm) 1:=by rw [someTo_next];rfl
     exact ⟨rfl,e1,e2,rfl⟩
    ·exact ⟨Nat.zero_le _,rfl⟩
    ·rintro ⟨j,O⟩ ⟨hj,hO⟩
     dsimp only at hj hO
     have e1:=someTo_next ss rs (pa,pb,pm) (j+1)
     have e2:=bothTo_next ss rs (pa,pb,pm) (j+1)
     dsimp only [x144_0,x144_0d,x180,x145]
     simp only [↓hcsTog,entRightS,entCHas,go_sem,Nat.reduceAdd,Nat.reduceSub,Nat.reduceMul,Nat.reduceLT,Nat.reduceLeDiff,Nat.reduceEqDiff,Nat.reduceBEq,Nat.reduceBNe,List.reduceReplicate,reduceIte,reduceCtorEq,↓reduceIte]
     try simp only [mset_keys,mdel_keys,td,reduceCtorEq]
     have w2:j < ss.length→IntKind.i64.wrap ((j:Int)+1)=((j+1:Nat):Int):=fun h=>i64_in _ (by omega)
     have hst:cabK ss (j+1)=stopK (cabK ss j) (ss.getD j (0,false)):=rfl
     have hpair:pairB ss rs (pa,pb,pm)=if pm=true then !someB ss rs (pa,pb,pm) || bothB ss rs (pa,pb,pm) else !bothB ss rs (pa,pb,pm):=rfl
     refine ⟨fun hj'=>⟨hj',fun q=>?_,fun q=>?_⟩,fun hj'=>?_⟩
     ·rw [stopK,if_pos q] at hst
      rw [← hst]
      simp only [any_rides hr (show j+1≤ss.length from hj')]
      exact ⟨look_in hr hj',fun z=>⟨z,fun y=>⟨z,y⟩⟩,by omega,(j+1,O ++ [bothTo ss rs (pa,pb,pm) (j+1) || ridesB ss rs pa (j+1) && ridesB ss rs pb (j+1)]),by dsimp only;omega,⟨hj',by rw [List.length_append,hO];rfl⟩,w2 hj',rfl,e2.symm,e1.symm,rfl⟩
     ·rw [stopK,if_neg (by rw [q];simp)] at hst
      rw [← hst]
      simp only [any_rides hr (show j+1≤ss.length from hj')]
      exact ⟨look_in hr hj',fun z=>⟨z,fun y=>⟨z,y⟩⟩,by omega,(j+1,O ++ [bothTo ss rs (pa,pb,pm) (j+1) || ridesB ss rs pa (j+1) && ridesB ss rs pb (j+1)]),by dsimp only;omega,⟨hj',by rw [List.length_append,hO];rfl⟩,w2 hj',rfl,e2.symm,e1.symm,rfl⟩
     ·obtain rfl:j=ss.length:=by omega
      have e3:someTo ss rs (pa,pb,pm) (ss.length+1)=someB ss rs (pa,pb,pm):=rfl
      have e4:bothTo ss rs (pa,pb,pm) (ss.length+1)=bothB ss rs (pa,pb,pm):=rfl
      rw [e3,e4]
      generalize someB ss rs (pa,pb,pm)=sm at hpair ⊢
      generalize bothB ss rs (pa,pb,pm)=bt at hpair ⊢
      refine ⟨fun q=>⟨q,fun z=>⟨q,z⟩⟩,fun q=>hno ?_,fun q=>⟨n+1,by omega,⟨hn',hyes ?_⟩,wn⟩⟩
      ·rw [hpair]
       cases pm <;> cases bt <;> cases sm <;> simp_all
      ·rw [hpair]
       cases pm <;> cases bt <;> cases sm <;> simp_all
end T
end Go.Proofs.YtecdcopihghnaaaGreat
end
section
namespace Go.Proofs.YtecdcopihghnaaaGreat
set_option linter.unusedVariables false
set_option linter.unusedSimpArgs false
open Go.RowKit Go.IntWalk
namespace T
def begF (w:DWorld) (c:Int) (ss:List DStop):DChain × Int :=
 if asksF w c ss=false then (noChain,1) else if (fitsF (carLoad (carAt w c)) ss w.2.2.2.1).2≠0 then (noChain,27) else if togF w.2.2.2.2.1 ss w.2.2.2.1=false then (noChain,30) else chainF w c ss
def entBeg:Ent:=⟨36,.cons (.st (.cons (.int .i64) (.cons (.sl (.st (.cons (.int .i64) (.cons (.int .i64) (.cons (.sl (.int .i64)) (.sl (.int .i64))))))) (.cons (.sl (.st (.cons (.int .i64) (.cons (.int .i64) (.cons (.int .i64) (.cons (.int .i64) (.cons (.int .i64) (.cons (.int .i64) (.cons (.int .i64) (.cons (.int .i64) (.int .i64))))))))))) (.cons (.sl (.st (.cons (.int .i64) (.cons (.int .i64) (.cons (.int .i64) (.cons (.int .i64) (.cons (.int .i64) (.cons (.int .i64) (.cons (.int .i64) (.cons (.int .i64) (.cons (.int .i64) (.int .i64)))))))))))) (.cons (.sl (.st (.cons (.int .i64) (.cons (.int .i64) .bool)))) (.st (.cons (.int .i64) (.cons (.int .i64) (.int .i64)))))))))) (.cons (.int .i64) (.cons (.sl (.st (.cons (.int .i64) .bool))) .nil)),.cons (.st (.cons (.sl (.st (.cons (.int .i64) (.int .i64)))) (.cons (.sl (.st (.cons (.int .i64) (.int .i64)))) (.sl (.st (.cons (.int .i64) (.cons (.int .i64) (.int .i64)))))))) (.cons (.int .i64) .nil),true,none,fun x=>List.length (α:=DStop) x.2.2.1≤24,fun x=>((begF x.1 x.2.1 x.2.2.1).1,(begF x.1 x.2.1 x.2.2.1).2,())⟩
def csBeg:List Ent:=[entAsk,entFits,entTog,entChn] theorem hcsBeg (f:FuncId):findEnt csBeg f=findEnt [entAsk,entFits,entTog,entChn] f:=rfl
theorem conBeg:Con Tryz.prog entBeg:=by
 refine con_is (C:=csBeg) x36 (by kernel_rfl) (by simp [csBeg,conAsk,conFits,conTog,conChn]) fun x hx hf=>?_
 obtain ⟨⟨(N:Int),(A:List DArc),(C:List DCar),(Q:List DReq),(P:List DPair),(S1:Int),(S2:Int),(S3:Int)⟩,(c:Int),(ss:List DStop),_⟩:=x
 replace hx:ss.length≤24:=hx
 cases ha:asksF (N,A,C,Q,P,S1,S2,S3) c ss with
 | false =>
  have hz:begF (N,A,C,Q,P,S1,S2,S3) c ss=(([],[],[]),1):=by unfold begF;rw [if_pos ha];rfl
  dsimp only [entBeg,x36];simp only [↓hcsBeg,entAsk,entFits,entTog,entChn,undef,ha,hz,go_sem,Nat.reduceAdd,Nat.reduceSub,Nat.reduceMul,Nat.reduceLT,Nat.reduceLeDiff,Nat.reduceEqDiff,Nat.reduceBEq,Nat.reduceBNe,List.reduceReplicate,reduceIte,reduceCtorEq,↓reduceIte]
  try simp only [ha,hz,td,reduceCtorEq]
 | true =>
  obtain ⟨hw,hc,hss⟩:=asks_iff.1 ha
  dsimp only at hc hss
  obtain ⟨c,rfl⟩:∃ z:Nat,c=z:=⟨c.toNat,by omega⟩
  have hcl:c < C.length:=by omega
  have hca:carAt (N,A,C,Q,P,S1,S2,S3) (c:Int)=C.getD c (0,0,0,0,0,0,0,0,0):=rfl
  have hz:begF (N,A,C,Q,P,S1,S2,S3) c ss=if (fitsF (carLoad (C.getD c (0,0,0,0,0,0,0,0,0))) ss Q).2≠0 then (noChain,27) else if togF P ss Q=false then (noChain,30) else chainF (N,A,C,Q,P,S1,S2,S3) c ss:=by
   unfold begF
   rw [if_neg (by rw [ha];simp),hca]
  dsimp only [entBeg,x36];simp only [↓hcsBeg,entAsk,entFits,entTog,entChn,undef,ha,hcl,hx,Int.toNat_natCast,go_sem,Nat.reduceAdd,Nat.reduceSub,Nat.reduceMul,Nat.reduceLT,Nat.reduceLeDiff,Nat.reduceEqDiff,Nat.reduceBEq,Nat.reduceBNe,List.reduceReplicate,reduceIte,reduceCtorEq,↓reduceIte]
  try simp only [ha,hcl,hx,Int.toNat_natCast,td,reduceCtorEq]
  refine ⟨fun h=>?_,fun h=>⟨fun h2=>?_,fun h2=>?_⟩⟩
  ·rw [hz,if_pos h];rfl
  ·rw [hz,if_neg (fun q=>q h),if_pos h2];rfl
  ·rw [hz,if_neg (fun q=>q h),if_neg (by rw [h2];simp)]
end T
end Go.Proofs.YtecdcopihghnaaaGreat
end
