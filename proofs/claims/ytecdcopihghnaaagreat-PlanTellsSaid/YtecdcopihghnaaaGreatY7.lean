/- Parts of the proof, merged (by a program): definitions and lemmas for the law; no condition. -/
import Derived.Test.YtecdcopihghnaaaGreatY6
section
namespace Go.Proofs.YtecdcopihghnaaaGreat
set_option linter.unusedVariables false
set_option linter.unusedSimpArgs false
open Go.RowKit Go.IntWalk
namespace T
def entClS:Ent:=⟨50,.cons (.sl (.st (.cons (.int .i64) .bool))) .nil,(.sl (.st (.cons (.int .i64) .bool))),false,none,fun x=>List.length (α:=DStop) x.1≤1000000,fun x=>x.1⟩
def csClS:List Ent:=[] theorem hcsClS (f:FuncId):findEnt csClS f=findEnt [] f:=rfl
theorem conClS:Con Tryz.prog entClS:=by
 refine con_is (C:=csClS) x50 (by kernel_rfl) (by simp [csClS]) fun x hx hf=>?_
 obtain ⟨(S:List DStop),_⟩:=x
 have hS:S.length≤1000000:=hx
 dsimp only [entClS,x50];simp only [↓hcsClS,go_sem,Nat.reduceAdd,Nat.reduceSub,Nat.reduceMul,Nat.reduceLT,Nat.reduceLeDiff,Nat.reduceEqDiff,Nat.reduceBEq,Nat.reduceBNe,List.reduceReplicate,reduceIte,reduceCtorEq,↓reduceIte];try simp only [td,reduceCtorEq]
 exact ⟨fun q=>q.symm,by omega⟩
theorem ext_getD {α:Type} (d:α) {a b:List α} (hl:a.length=b.length) (h:∀ i,i < a.length→a.getD i d=b.getD i d):a=b:=by
 refine List.ext_getElem hl fun i h1 h2=>?_
 have:=h i h1
 simpa [List.getD,h1,h2] using this
def entEqLg:Ent:=⟨37,.cons (.sl (.st (.cons (.int .i64) (.int .i64)))) (.cons (.sl (.st (.cons (.int .i64) (.int .i64)))) .nil),.bool,false,none,fun _=>True,fun x=>decide ((x.1:List DLeg)=x.2.1)⟩
def csEqLg:List Ent:=[] theorem hcsEqLg (f:FuncId):findEnt csEqLg f=findEnt [] f:=rfl
theorem conEqLg:Con Tryz.prog entEqLg:=by
 refine con_is (C:=csEqLg) x37 (by kernel_rfl) (by simp [csEqLg]) fun x hx hf=>?_
 obtain ⟨(a:List DLeg),(b:List DLeg),_⟩:=x
 have hl:a.length≤9223372036854775807:=hf.1.1
 by_cases hab:a.length=b.length
 ·have habi:(a.length:Int)=(b.length:Int):=by omega
  dsimp only [entEqLg,x37];simp only [↓hcsEqLg,habi,go_sem,Nat.reduceAdd,Nat.reduceSub,Nat.reduceMul,Nat.reduceLT,Nat.reduceLeDiff,Nat.reduceEqDiff,Nat.reduceBEq,Nat.reduceBNe,List.reduceReplicate,reduceIte,reduceCtorEq,↓reduceIte]
  try simp only [habi,td,reduceCtorEq]
  refine XW_for 1000 x37_0d [] Nat (fun j=>[(13,.val (.int .i64) (j:Int))]) (fun _=>[]) (fun j=>j≤a.length∧∀ i,i < j→a.getD i (0,0)=b.getD i (0,0)) (fun j=>a.length - j) 0 ?_ ?_ ?_
  ·dsimp only [x37_0d];simp only [go_sem,Nat.reduceAdd,Nat.reduceSub,Nat.reduceMul,Nat.reduceLT,Nat.reduceLeDiff,Nat.reduceEqDiff,Nat.reduceBEq,Nat.reduceBNe,List.reduceReplicate,reduceIte,reduceCtorEq,↓reduceIte];try trivial
  ·exact ⟨Nat.zero_le _,fun i hi=>by omega⟩
  rintro j ⟨hj,hn⟩
  by_cases hja:j < a.length
  ·have hjb:j < b.length:=by omega
   have w2:IntKind.i64.wrap ((j:Int)+1)=((j+1:Nat):Int):=i64_in _ (by omega)
   have hne:a.getD j (0,0)≠b.getD j (0,0)→decide (a=b)=false:=fun h=>decide_eq_false fun z=>h (by rw [z])
   have hnx:a.getD j (0,0)=b.getD j (0,0)→∀ i,i < j+1→a.getD i (0,0)=b.getD i (0,0):=fun h i hi=>by
    rcases Nat.lt_or_ge i j with q | q
    ·exact hn i q
    ·rw [show i=j by omega];exact h
   generalize hA:a.getD j (0,0)=u at hne hnx
   generalize hB:b.getD j (0,0)=v at hne hnx
   obtain ⟨u1,u2⟩:=u
   obtain ⟨v1,v2⟩:=v
   have huv:((u1,u2)=(v1,v2)) ↔ u1=v1∧u2=v2:=Prod.mk.injEq _ _ _ _ ▸ Iff.rfl
   dsimp only [x37_0,x37_0d];simp only [↓hcsEqLg,hja,hjb,w2,hA,hB,habi,go_sem,Nat.reduceAdd,Nat.reduceSub,Nat.reduceMul,Nat.reduceLT,Nat.reduceLeDiff,Nat.reduceEqDiff,Nat.reduceBEq,Nat.reduceBNe,List.reduceReplicate,reduceIte,reduceCtorEq,↓reduceIte]
   try simp only [hja,hjb,w2,hA,hB,habi,td,reduceCtorEq]
   exact ⟨fun h=>(hne (fun q=>h (huv.1 q).1 (huv.1 q).2)).symm,fun h=>⟨j+1,by omega,⟨by omega,hnx (huv.2 h)⟩,rfl⟩⟩
  ·have hjb:¬ j < b.length:=by omega
   have heq:decide (a=b)=true:=decide_eq_true (ext_getD (0,0) hab fun i hi=>hn i (by omega))
   dsimp only [x37_0,x37_0d];simp only [↓hcsEqLg,hja,hjb,habi,heq,go_sem,Nat.reduceAdd,Nat.reduceSub,Nat.reduceMul,Nat.reduceLT,Nat.reduceLeDiff,Nat.reduceEqDiff,Nat.reduceBEq,Nat.reduceBNe,List.reduceReplicate,reduceIte,reduceCtorEq,↓reduceIte]
   try simp only [hja,hjb,habi,heq,td,reduceCtorEq]
 ·have habi:¬ (a.length:Int)=(b.length:Int):=by omega
  have hne:decide (a=b)=false:=decide_eq_false fun z=>hab (by rw [z])
  dsimp only [entEqLg,x37];simp only [↓hcsEqLg,hab,habi,hne,go_sem,Nat.reduceAdd,Nat.reduceSub,Nat.reduceMul,Nat.reduceLT,Nat.reduceLeDiff,Nat.reduceEqDiff,Nat.reduceBEq,Nat.reduceBNe,List.reduceReplicate,reduceIte,reduceCtorEq,↓reduceIte]
  try simp only [hab,habi,hne,td,reduceCtorEq]
def entSmLg:Ent:=⟨18,.cons (.sl (.st (.cons (.int .i64) (.int .i64)))) (.cons (.sl (.st (.cons (.int .i64) (.int .i64)))) .nil),.bool,false,none,fun _=>True,fun x=>decide ((x.1:List DLeg)=x.2.1)⟩
def csSmLg:List Ent:=[] theorem hcsSmLg (f:FuncId):findEnt csSmLg f=findEnt [] f:=rfl
theorem conSmLg:Con Tryz.prog entSmLg:=by
 refine con_is (C:=csSmLg) x18 (by kernel_rfl) (by simp [csSmLg]) fun x hx hf=>?_
 obtain ⟨(a:List DLeg),(b:List DLeg),_⟩:=x
 have hl:a.length≤9223372036854775807:=hf.1.1
 by_cases hab:a.length=b.length
 ·have habi:(a.length:Int)=(b.length:Int):=by omega
  dsimp only [entSmLg,x18];simp only [↓hcsSmLg,habi,go_sem,Nat.reduceAdd,Nat.reduceSub,Nat.reduceMul,Nat.reduceLT,Nat.reduceLeDiff,Nat.reduceEqDiff,Nat.reduceBEq,Nat.reduceBNe,List.reduceReplicate,reduceIte,reduceCtorEq,↓reduceIte]
  try simp only [habi,td,reduceCtorEq]
  refine XW_for 1000 x18_0d [] Nat (fun j=>[(5,.val (.int .i64) (j:Int))]) (fun _=>[]) (fun j=>j≤a.length∧∀ i,i < j→a.getD i (0,0)=b.getD i (0,0)) (fun j=>a.length - j) 0 ?_ ?_ ?_
  ·dsimp only [x18_0d];simp only [go_sem,Nat.reduceAdd,Nat.reduceSub,Nat.reduceMul,Nat.reduceLT,Nat.reduceLeDiff,Nat.reduceEqDiff,Nat.reduceBEq,Nat.reduceBNe,List.reduceReplicate,reduceIte,reduceCtorEq,↓reduceIte];try trivial
  ·exact ⟨Nat.zero_le _,fun i hi=>by omega⟩
  rintro j ⟨hj,hn⟩
  by_cases hja:j < a.length
  ·have hjb:j < b.length:=by omega
   have w2:IntKind.i64.wrap ((j:Int)+1)=((j+1:Nat):Int):=i64_in _ (by omega)
   have hne:a.getD j (0,0)≠b.getD j (0,0)→decide (a=b)=false:=fun h=>decide_eq_false fun z=>h (by rw [z])
   have hnx:a.getD j (0,0)=b.getD j (0,0)→∀ i,i < j+1→a.getD i (0,0)=b.getD i (0,0):=fun h i hi=>by
    rcases Nat.lt_or_ge i j with q | q
    ·exact hn i q
    ·rw [show i=j by omega];exact h
   generalize hA:a.getD j (0,0)=u at hne hnx
   generalize hB:b.getD j (0,0)=v at hne hnx
   obtain ⟨u1,u2⟩:=u
   obtain ⟨v1,v2⟩:=v
   have huv:((u1,u2)=(v1,v2)) ↔ u1=v1∧u2=v2:=Prod.mk.injEq _ _ _ _ ▸ Iff.rfl
   dsimp only [x18_0,x18_0d];simp only [↓hcsSmLg,hja,hjb,w2,hA,hB,habi,go_sem,Nat.reduceAdd,Nat.reduceSub,Nat.reduceMul,Nat.reduceLT,Nat.reduceLeDiff,Nat.reduceEqDiff,Nat.reduceBEq,Nat.reduceBNe,List.reduceReplicate,reduceIte,reduceCtorEq,↓reduceIte]
   try simp only [hja,hjb,w2,hA,hB,habi,td,reduceCtorEq]
   exact ⟨fun h=>(hne (fun q=>h (huv.1 q).1 (huv.1 q).2)).symm,fun h=>⟨j+1,by omega,⟨by omega,hnx (huv.2 h)⟩,rfl⟩⟩
  ·have hjb:¬ j < b.length:=by omega
   have heq:decide (a=b)=true:=decide_eq_true (ext_getD (0,0) hab fun i hi=>hn i (by omega))
   dsimp only [x18_0,x18_0d];simp only [↓hcsSmLg,hja,hjb,habi,heq,go_sem,Nat.reduceAdd,Nat.reduceSub,Nat.reduceMul,Nat.reduceLT,Nat.reduceLeDiff,Nat.reduceEqDiff,Nat.reduceBEq,Nat.reduceBNe,List.reduceReplicate,reduceIte,reduceCtorEq,↓reduceIte]
   try simp only [hja,hjb,habi,heq,td,reduceCtorEq]
 ·have habi:¬ (a.length:Int)=(b.length:Int):=by omega
  have hne:decide (a=b)=false:=decide_eq_false fun z=>hab (by rw [z])
  dsimp only [entSmLg,x18];simp only [↓hcsSmLg,hab,habi,hne,go_sem,Nat.reduceAdd,Nat.reduceSub,Nat.reduceMul,Nat.reduceLT,Nat.reduceLeDiff,Nat.reduceEqDiff,Nat.reduceBEq,Nat.reduceBNe,List.reduceReplicate,reduceIte,reduceCtorEq,↓reduceIte]
  try simp only [hab,habi,hne,td,reduceCtorEq]
def entSmSt:Ent:=⟨17,.cons (.sl (.st (.cons (.int .i64) .bool))) (.cons (.sl (.st (.cons (.int .i64) .bool))) .nil),.bool,false,none,fun _=>True,fun x=>decide ((x.1:List DStop)=x.2.1)⟩
def csSmSt:List Ent:=[] theorem hcsSmSt (f:FuncId):findEnt csSmSt f=findEnt [] f:=rfl
theorem conSmSt:Con Tryz.prog entSmSt:=by
 refine con_is (C:=csSmSt) x17 (by kernel_rfl) (by simp [csSmSt]) fun x hx hf=>?_
 obtain ⟨(a:List DStop),(b:List DStop),_⟩:=x
 have hl:a.length≤9223372036854775807:=hf.1.1
 by_cases hab:a.length=b.length
 ·have habi:(a.length:Int)=(b.length:Int):=by omega
  dsimp only [entSmSt,x17];simp only [↓hcsSmSt,habi,go_sem,Nat.reduceAdd,Nat.reduceSub,Nat.reduceMul,Nat.reduceLT,Nat.reduceLeDiff,Nat.reduceEqDiff,Nat.reduceBEq,Nat.reduceBNe,List.reduceReplicate,reduceIte,reduceCtorEq,↓reduceIte]
  try simp only [habi,td,reduceCtorEq]
  refine XW_for 1000 x17_0d [] Nat (fun j=>[(5,.val (.int .i64) (j:Int))]) (fun _=>[]) (fun j=>j≤a.length∧∀ i,i < j→a.getD i (0,false)=b.getD i (0,false)) (fun j=>a.length - j) 0 ?_ ?_ ?_
  ·dsimp only [x17_0d];simp only [go_sem,Nat.reduceAdd,Nat.reduceSub,Nat.reduceMul,Nat.reduceLT,Nat.reduceLeDiff,Nat.reduceEqDiff,Nat.reduceBEq,Nat.reduceBNe,List.reduceReplicate,reduceIte,reduceCtorEq,↓reduceIte];try trivial
  ·exact ⟨Nat.zero_le _,fun i hi=>by omega⟩
  rintro j ⟨hj,hn⟩
  by_cases hja:j < a.length
  ·have hjb:j < b.length:=by omega
   have w2:IntKind.i64.wrap ((j:Int)+1)=((j+1:Nat):Int):=i64_in _ (by omega)
   have hne:a.getD j (0,false)≠b.getD j (0,false)→decide (a=b)=false:=fun h=>decide_eq_false fun z=>h (by rw [z])
   have hnx:a.getD j (0,false)=b.getD j (0,false)→∀ i,i < j+1→a.getD i (0,false)=b.getD i (0,false):=fun h i hi=>by
    rcases Nat.lt_or_ge i j with q | q
    ·exact hn i q
    ·rw [show i=j by omega];exact h
   generalize hA:a.getD j (0,false)=u at hne hnx
   generalize hB:b.getD j (0,false)=v at hne hnx
   obtain ⟨u1,u2⟩:=u
   obtain ⟨v1,v2⟩:=v
   have huv:((u1,u2)=(v1,v2)) ↔ u1=v1∧u2=v2:=Prod.mk.injEq _ _ _ _ ▸ Iff.rfl
   dsimp only [x17_0,x17_0d];simp only [↓hcsSmSt,hja,hjb,w2,hA,hB,habi,go_sem,Nat.reduceAdd,Nat.reduceSub,Nat.reduceMul,Nat.reduceLT,Nat.reduceLeDiff,Nat.reduceEqDiff,Nat.reduceBEq,Nat.reduceBNe,List.reduceReplicate,reduceIte,reduceCtorEq,↓reduceIte]
   try simp only [hja,hjb,w2,hA,hB,habi,td,reduceCtorEq]
   exact ⟨fun h=>(hne (fun q=>h (huv.1 q).1 (huv.1 q).2)).symm,fun h=>⟨j+1,by omega,⟨by omega,hnx (huv.2 h)⟩,rfl⟩⟩
  ·have hjb:¬ j < b.length:=by omega
   have heq:decide (a=b)=true:=decide_eq_true (ext_getD (0,false) hab fun i hi=>hn i (by omega))
   dsimp only [x17_0,x17_0d];simp only [↓hcsSmSt,hja,hjb,habi,heq,go_sem,Nat.reduceAdd,Nat.reduceSub,Nat.reduceMul,Nat.reduceLT,Nat.reduceLeDiff,Nat.reduceEqDiff,Nat.reduceBEq,Nat.reduceBNe,List.reduceReplicate,reduceIte,reduceCtorEq,↓reduceIte]
   try simp only [hja,hjb,habi,heq,td,reduceCtorEq]
 ·have habi:¬ (a.length:Int)=(b.length:Int):=by omega
  have hne:decide (a=b)=false:=decide_eq_false fun z=>hab (by rw [z])
  dsimp only [entSmSt,x17];simp only [↓hcsSmSt,hab,habi,hne,go_sem,Nat.reduceAdd,Nat.reduceSub,Nat.reduceMul,Nat.reduceLT,Nat.reduceLeDiff,Nat.reduceEqDiff,Nat.reduceBEq,Nat.reduceBNe,List.reduceReplicate,reduceIte,reduceCtorEq,↓reduceIte]
  try simp only [hab,habi,hne,td,reduceCtorEq]
end T
end Go.Proofs.YtecdcopihghnaaaGreat
end
section
namespace Go.Proofs.YtecdcopihghnaaaGreat
set_option linter.unusedVariables false
set_option linter.unusedSimpArgs false
open Go.RowKit Go.IntWalk
namespace T
abbrev DPlan:=Int × List DStop × List DLeg × List Int
def noPlan:DPlan:=(0,[],[],[])
def makeF (w:DWorld) (c:Int) (ss:List DStop):DPlan × Int :=
 if (begF w c ss).2≠0 then (noPlan,(begF w c ss).2) else if (guardF (begF w c ss).1).2≠0 then (noPlan,20)
 else if restsF w (begF w c ss).1 (guardF (begF w c ss).1).1=false then (noPlan,29) else ((c,ss,(begF w c ss).1.2.1,(guardF (begF w c ss).1).1),0)
theorem makeF_eq (w:DWorld) (c:Int) (ss:List DStop):makeF w c ss=if (begF w c ss).2≠0 then (noPlan,(begF w c ss).2) else if (guardF (begF w c ss).1).2≠0 then (noPlan,20)
 else if restsF w (begF w c ss).1 (guardF (begF w c ss).1).1=false then (noPlan,29) else ((c,ss,(begF w c ss).1.2.1,(guardF (begF w c ss).1).1),0):=rfl
def okC (w:DWorld) (p:DPlan) (c:DChain):Bool:=decide (p.2.2.1=c.2.1) && (decide (p.2.2.2.length=c.1.length) && (allIn 1048576 p.2.2.2 && rightC c))
def checkP (w:DWorld) (p:DPlan):Int :=
 if (begF w p.1 p.2.1).2≠0 then (begF w p.1 p.2.1).2 else if okC w p (begF w p.1 p.2.1).1=false then 23
 else if keeps20 (begF w p.1 p.2.1).1 p.2.2.2=false then 20 else if restsF w (begF w p.1 p.2.1).1 p.2.2.2=false then 29 else 0
def lastI (l:List Int):Int:=l.getD (l.length - 1) 0
def endP (w:DWorld) (p:DPlan):Int × Int:=if checkP w p≠0 then (0,checkP w p) else (lastI (worstF (chainF w p.1 p.2.1).1 p.2.2.2).1,0)
theorem guard_fits {c:DChain} (h:(guardF c).2=0):fitsG c (guardF c).1=true:=by
 unfold guardF at h ⊢
 by_cases h1:rightC c=false
 ·rw [if_pos h1] at h;cases h
 ·rw [if_neg h1] at h ⊢
  by_cases h2:c.2.2.any (lateR c)=true
  ·rw [if_pos h2] at h;cases h
  ·rw [if_neg h2] at h ⊢
   by_cases h3:inTime c (playF (gsF c c.1.length) (highsF c.2.1))=false
   ·rw [if_pos h3] at h;cases h
   ·rw [if_neg h3]
    exact gs_fits (by simpa using h1) (late_none h2)
def entMk:Ent:=⟨16,.cons (.st (.cons (.int .i64) (.cons (.sl (.st (.cons (.int .i64) (.cons (.int .i64) (.cons (.sl (.int .i64)) (.sl (.int .i64))))))) (.cons (.sl (.st (.cons (.int .i64) (.cons (.int .i64) (.cons (.int .i64) (.cons (.int .i64) (.cons (.int .i64) (.cons (.int .i64) (.cons (.int .i64) (.cons (.int .i64) (.int .i64))))))))))) (.cons (.sl (.st (.cons (.int .i64) (.cons (.int .i64) (.cons (.int .i64) (.cons (.int .i64) (.cons (.int .i64) (.cons (.int .i64) (.cons (.int .i64) (.cons (.int .i64) (.cons (.int .i64) (.int .i64)))))))))))) (.cons (.sl (.st (.cons (.int .i64) (.cons (.int .i64) .bool)))) (.st (.cons (.int .i64) (.cons (.int .i64) (.int .i64)))))))))) (.cons (.int .i64) (.cons (.sl (.st (.cons (.int .i64) .bool))) .nil)),.cons (.st (.cons (.int .i64) (.cons (.sl (.st (.cons (.int .i64) .bool))) (.cons (.sl (.st (.cons (.int .i64) (.int .i64)))) (.sl (.int .i64)))))) (.cons (.int .i64) .nil),true,none,fun x=>List.length (α:=DStop) x.2.2.1≤24,fun x=>((makeF x.1 x.2.1 x.2.2.1).1,(makeF x.1 x.2.1 x.2.2.1).2,())⟩
def csMk:List Ent:=[entBeg,entGrd,entRst,entClS] theorem hcsMk (f:FuncId):findEnt csMk f=findEnt [entBeg,entGrd,entRst,entClS] f:=rfl
theorem conMk:Con Tryz.prog entMk:=by
 refine con_is (C:=csMk) x16 (by kernel_rfl) (by simp [csMk,conBeg,conGrd,conRst,conClS]) fun x hx hf=>?_
 obtain ⟨⟨(N:Int),(A:List DArc),(C:List DCar),(Q:List DReq),(P:List DPair),(S1:Int),(S2:Int),(S3:Int)⟩,(c:Int),(ss:List DStop),_⟩:=x
 replace hx:ss.length≤24:=hx
 have hx6:ss.length≤1000000:=by omega
 have hz:=makeF_eq (N,A,C,Q,P,S1,S2,S3) c ss
 generalize hb:begF (N,A,C,Q,P,S1,S2,S3) c ss=be at hz
 obtain ⟨ch,e⟩:=be
 dsimp only at hz
 by_cases he:e=0
 ·subst he
  rw [if_neg (by simp)] at hz
  generalize hg:guardF ch=gu at hz
  obtain ⟨gd,e⟩:=gu
  dsimp only at hz
  by_cases he:e=0
  ·subst he
   have hfit:fitsG ch gd=true:=by have:=guard_fits (c:=ch) (by rw [hg]);rwa [hg] at this
   rw [if_neg (by simp)] at hz
   obtain ⟨W,L,R⟩:=ch
   cases hr:restsF (N,A,C,Q,P,S1,S2,S3) (W,L,R) gd with
   | true =>
    rw [if_neg (by rw [hr];simp)] at hz
    dsimp only [entMk,x16];simp only [↓hcsMk,entBeg,entGrd,entRst,entClS,undef,hx,hx6,hb,hg,hfit,hr,hz,go_sem,Nat.reduceAdd,Nat.reduceSub,Nat.reduceMul,Nat.reduceLT,Nat.reduceLeDiff,Nat.reduceEqDiff,Nat.reduceBEq,Nat.reduceBNe,List.reduceReplicate,reduceIte,reduceCtorEq,↓reduceIte]
    try simp only [hx,hx6,hb,hg,hfit,hr,hz,td,reduceCtorEq]
    all_goals rfl
   | false =>
    rw [if_pos hr] at hz
    dsimp only [entMk,x16];simp only [↓hcsMk,entBeg,entGrd,entRst,entClS,undef,hx,hb,hg,hfit,hr,hz,go_sem,Nat.reduceAdd,Nat.reduceSub,Nat.reduceMul,Nat.reduceLT,Nat.reduceLeDiff,Nat.reduceEqDiff,Nat.reduceBEq,Nat.reduceBNe,List.reduceReplicate,reduceIte,reduceCtorEq,↓reduceIte]
    try simp only [hx,hb,hg,hfit,hr,hz,td,reduceCtorEq]
    all_goals rfl
  ·rw [if_pos he] at hz
   obtain ⟨W,L,R⟩:=ch
   dsimp only [entMk,x16];simp only [↓hcsMk,entBeg,entGrd,entRst,entClS,undef,hx,hb,hg,he,hz,go_sem,Nat.reduceAdd,Nat.reduceSub,Nat.reduceMul,Nat.reduceLT,Nat.reduceLeDiff,Nat.reduceEqDiff,Nat.reduceBEq,Nat.reduceBNe,List.reduceReplicate,reduceIte,reduceCtorEq,↓reduceIte]
   try simp only [hx,hb,hg,he,hz,td,reduceCtorEq]
   all_goals rfl
 ·rw [if_pos he] at hz
  obtain ⟨W,L,R⟩:=ch
  dsimp only [entMk,x16];simp only [↓hcsMk,entBeg,entGrd,entRst,entClS,undef,hx,hb,he,hz,go_sem,Nat.reduceAdd,Nat.reduceSub,Nat.reduceMul,Nat.reduceLT,Nat.reduceLeDiff,Nat.reduceEqDiff,Nat.reduceBEq,Nat.reduceBNe,List.reduceReplicate,reduceIte,reduceCtorEq,↓reduceIte]
  try simp only [hx,hb,he,hz,td,reduceCtorEq]
  all_goals rfl
theorem checkP_eq (w:DWorld) (p:DPlan):checkP w p=if (begF w p.1 p.2.1).2≠0 then (begF w p.1 p.2.1).2 else if okC w p (begF w p.1 p.2.1).1=false then 23
 else if keeps20 (begF w p.1 p.2.1).1 p.2.2.2=false then 20 else if restsF w (begF w p.1 p.2.1).1 p.2.2.2=false then 29 else 0:=rfl
theorem allIn_within {m:Int} {l:List Int}:allIn m l=true ↔ Within 0 m l:=by
 unfold allIn Within
 simp only [List.all_eq_true,decide_eq_true_eq]
theorem okC_fits {w:DWorld} {p:DPlan} {c:DChain} (h:okC w p c=true):rightC c=true∧fitsG c p.2.2.2=true:=by
 unfold okC at h
 simp only [Bool.and_eq_true,decide_eq_true_eq] at h
 obtain ⟨_,h2,h3,h4⟩:=h
 exact ⟨h4,fitsG_iff.2 ⟨h4,h2,fun x hx=>by have:=allIn_within.1 h3 x hx;omega⟩⟩
def entCkP:Ent:=⟨12,.cons (.st (.cons (.int .i64) (.cons (.sl (.st (.cons (.int .i64) (.cons (.int .i64) (.cons (.sl (.int .i64)) (.sl (.int .i64))))))) (.cons (.sl (.st (.cons (.int .i64) (.cons (.int .i64) (.cons (.int .i64) (.cons (.int .i64) (.cons (.int .i64) (.cons (.int .i64) (.cons (.int .i64) (.cons (.int .i64) (.int .i64))))))))))) (.cons (.sl (.st (.cons (.int .i64) (.cons (.int .i64) (.cons (.int .i64) (.cons (.int .i64) (.cons (.int .i64) (.cons (.int .i64) (.cons (.int .i64) (.cons (.int .i64) (.cons (.int .i64) (.int .i64)))))))))))) (.cons (.sl (.st (.cons (.int .i64) (.cons (.int .i64) .bool)))) (.st (.cons (.int .i64) (.cons (.int .i64) (.int .i64)))))))))) (.cons (.st (.cons (.int .i64) (.cons (.sl (.st (.cons (.int .i64) .bool))) (.cons (.sl (.st (.cons (.int .i64) (.int .i64)))) (.sl (.int .i64)))))) .nil),(.int .i64),false,none,fun x=>List.length (α:=DStop) (x.2.1:DPlan).2.1≤24,fun x=>checkP x.1 x.2.1⟩
def csCkP:List Ent:=[entBeg,entEqLg,entPin,entRctR,entKps,entRst] theorem hcsCkP (f:FuncId):findEnt csCkP f=findEnt [entBeg,entEqLg,entPin,entRctR,entKps,entRst] f:=rfl
theorem conCkP:Con Tryz.prog entCkP:=by
 refine con_is (C:=csCkP) x12 (by kernel_rfl) (by simp [csCkP,conBeg,conEqLg,conPin,conRctR,conKps,conRst]) fun x hx hf=>?_
 obtain ⟨⟨(N:Int),(A:List DArc),(C:List DCar),(Q:List DReq),(P:List DPair),(S1:Int),(S2:Int),(S3:Int)⟩,⟨(c:Int),(ss:List DStop),(Lg:List DLeg),(Lv:List Int)⟩,_⟩:=x
 replace hx:ss.length≤24:=hx
 have hz:=checkP_eq (N,A,C,Q,P,S1,S2,S3) (c,ss,Lg,Lv)
 dsimp only at hz
 generalize hb:begF (N,A,C,Q,P,S1,S2,S3) c ss=be at hz
 obtain ⟨ch,e⟩:=be
 dsimp only at hz
 obtain ⟨W,L,R⟩:=ch
 by_cases he:e=0
 ·subst he
  rw [if_neg (by simp)] at hz
  have hok:okC (N,A,C,Q,P,S1,S2,S3) (c,ss,Lg,Lv) (W,L,R)=(decide (Lg=L) && (decide (Lv.length=W.length) && (allIn 1048576 Lv && rightC (W,L,R)))):=rfl
  have hfit:=fun h=>okC_fits (w:=(N,A,C,Q,P,S1,S2,S3)) (p:=(c,ss,Lg,Lv)) (c:=(W,L,R)) h
  dsimp only at hfit
  cases hc:okC (N,A,C,Q,P,S1,S2,S3) (c,ss,Lg,Lv) (W,L,R) with
  | false =>
   rw [hc] at hok
   rw [if_pos hc] at hz
   dsimp only [entCkP,x12];simp only [↓hcsCkP,entBeg,entEqLg,entPin,entRctR,entKps,entRst,undef,hx,hb,hz,go_sem,Nat.reduceAdd,Nat.reduceSub,Nat.reduceMul,Nat.reduceLT,Nat.reduceLeDiff,Nat.reduceEqDiff,Nat.reduceBEq,Nat.reduceBNe,List.reduceReplicate,reduceIte,reduceCtorEq,↓reduceIte]
   try simp only [hx,hb,hz,td,reduceCtorEq]
   intro h
   exfalso
   rw [decide_eq_true h.1.1.1,decide_eq_true h.1.1.2,h.1.2,h.2] at hok
   exact Bool.noConfusion hok
  | true =>
   rw [hc] at hok
   obtain ⟨hr,hf2⟩:=hfit hc
   rw [if_neg (by rw [hc];simp)] at hz
   have hok2:=hok.symm
   simp only [Bool.and_eq_true,decide_eq_true_eq] at hok2
   obtain ⟨o1,o2,o3,o4⟩:=hok2
   subst o1
   have o2i:(Lv.length:Int)=(W.length:Int):=by omega
   cases hk:keeps20 (W,Lg,R) Lv with
   | false =>
    rw [if_pos hk] at hz
    dsimp only [entCkP,x12];simp only [↓hcsCkP,entBeg,entEqLg,entPin,entRctR,entKps,entRst,undef,hx,hb,o2,o2i,o3,hr,hf2,hk,hz,go_sem,Nat.reduceAdd,Nat.reduceSub,Nat.reduceMul,Nat.reduceLT,Nat.reduceLeDiff,Nat.reduceEqDiff,Nat.reduceBEq,Nat.reduceBNe,List.reduceReplicate,reduceIte,reduceCtorEq,↓reduceIte]
    try simp only [hx,hb,o2,o2i,o3,hr,hf2,hk,hz,td,reduceCtorEq]
   | true =>
    rw [if_neg (by rw [hk];simp)] at hz
    cases hs:restsF (N,A,C,Q,P,S1,S2,S3) (W,Lg,R) Lv with
    | false =>
     rw [if_pos hs] at hz
     dsimp only [entCkP,x12];simp only [↓hcsCkP,entBeg,entEqLg,entPin,entRctR,entKps,entRst,undef,hx,hb,o2,o2i,o3,hr,hf2,hk,hs,hz,go_sem,Nat.reduceAdd,Nat.reduceSub,Nat.reduceMul,Nat.reduceLT,Nat.reduceLeDiff,Nat.reduceEqDiff,Nat.reduceBEq,Nat.reduceBNe,List.reduceReplicate,reduceIte,reduceCtorEq,↓reduceIte]
     try simp only [hx,hb,o2,o2i,o3,hr,hf2,hk,hs,hz,td,reduceCtorEq]
    | true =>
     rw [if_neg (by rw [hs];simp)] at hz
     dsimp only [entCkP,x12];simp only [↓hcsCkP,entBeg,entEqLg,entPin,entRctR,entKps,entRst,undef,hx,hb,o2,o2i,o3,hr,hf2,hk,hs,hz,go_sem,Nat.reduceAdd,Nat.reduceSub,Nat.reduceMul,Nat.reduceLT,Nat.reduceLeDiff,Nat.reduceEqDiff,Nat.reduceBEq,Nat.reduceBNe,List.reduceReplicate,reduceIte,reduceCtorEq,↓reduceIte]
     try simp only [hx,hb,o2,o2i,o3,hr,hf2,hk,hs,hz,td,reduceCtorEq]
 ·rw [if_pos he] at hz
  dsimp only [entCkP,x12];simp only [↓hcsCkP,entBeg,entEqLg,entPin,entRctR,entKps,entRst,undef,hx,hb,he,hz,go_sem,Nat.reduceAdd,Nat.reduceSub,Nat.reduceMul,Nat.reduceLT,Nat.reduceLeDiff,Nat.reduceEqDiff,Nat.reduceBEq,Nat.reduceBNe,List.reduceReplicate,reduceIte,reduceCtorEq,↓reduceIte]
  try simp only [hx,hb,he,hz,td,reduceCtorEq]
  all_goals rfl
theorem beg_ok {w:DWorld} {c:Int} {ss:List DStop} (h:(begF w c ss).2=0):begF w c ss=chainF w c ss:=by
 unfold begF at h ⊢
 by_cases h1:asksF w c ss=false
 ·rw [if_pos h1] at h;cases h
 ·rw [if_neg h1] at h ⊢
  by_cases h2:(fitsF (carLoad (carAt w c)) ss w.2.2.2.1).2≠0
  ·rw [if_pos h2] at h;cases h
  ·rw [if_neg h2] at h ⊢
   by_cases h3:togF w.2.2.2.2.1 ss w.2.2.2.1=false
   ·rw [if_pos h3] at h;cases h
   ·rw [if_neg h3]
theorem check_ok {w:DWorld} {p:DPlan} (h:checkP w p=0):begF w p.1 p.2.1=chainF w p.1 p.2.1∧(chainF w p.1 p.2.1).2=0∧okC w p (chainF w p.1 p.2.1).1=true∧keeps20 (chainF w p.1 p.2.1).1 p.2.2.2=true∧restsF w (chainF w p.1 p.2.1).1 p.2.2.2=true:=by
 unfold checkP at h
 by_cases h1:(begF w p.1 p.2.1).2≠0
 ·rw [if_pos h1] at h;exact absurd h h1
 ·rw [if_neg h1] at h
  have hb:=beg_ok (Decidable.not_not.1 h1)
  by_cases h2:okC w p (begF w p.1 p.2.1).1=false
  ·rw [if_pos h2] at h;cases h
  ·rw [if_neg h2] at h
   by_cases h3:keeps20 (begF w p.1 p.2.1).1 p.2.2.2=false
   ·rw [if_pos h3] at h;cases h
   ·rw [if_neg h3] at h
    by_cases h4:restsF w (begF w p.1 p.2.1).1 p.2.2.2=false
    ·rw [if_pos h4] at h;cases h
    ·rw [hb] at h1 h2 h3 h4
     exact ⟨hb,Decidable.not_not.1 h1,by simpa using h2,by simpa using h3,by simpa using h4⟩
theorem endP_eq (w:DWorld) (p:DPlan):endP w p=if checkP w p≠0 then (0,checkP w p) else (lastI (worstF (chainF w p.1 p.2.1).1 p.2.2.2).1,0):=rfl
def entEnd:Ent:=⟨19,.cons (.st (.cons (.int .i64) (.cons (.sl (.st (.cons (.int .i64) (.cons (.int .i64) (.cons (.sl (.int .i64)) (.sl (.int .i64))))))) (.cons (.sl (.st (.cons (.int .i64) (.cons (.int .i64) (.cons (.int .i64) (.cons (.int .i64) (.cons (.int .i64) (.cons (.int .i64) (.cons (.int .i64) (.cons (.int .i64) (.int .i64))))))))))) (.cons (.sl (.st (.cons (.int .i64) (.cons (.int .i64) (.cons (.int .i64) (.cons (.int .i64) (.cons (.int .i64) (.cons (.int .i64) (.cons (.int .i64) (.cons (.int .i64) (.cons (.int .i64) (.int .i64)))))))))))) (.cons (.sl (.st (.cons (.int .i64) (.cons (.int .i64) .bool)))) (.st (.cons (.int .i64) (.cons (.int .i64) (.int .i64)))))))))) (.cons (.st (.cons (.int .i64) (.cons (.sl (.st (.cons (.int .i64) .bool))) (.cons (.sl (.st (.cons (.int .i64) (.int .i64)))) (.sl (.int .i64)))))) .nil),.cons (.int .i64) (.cons (.int .i64) .nil),true,none,fun x=>List.length (α:=DStop) (x.2.1:DPlan).2.1≤24,fun x=>((endP x.1 x.2.1).1,(endP x.1 x.2.1).2,())⟩
def csEnd:List Ent:=[entCkP,entChn,entWorst] theorem hcsEnd (f:FuncId):findEnt csEnd f=findEnt [entCkP,entChn,entWorst] f:=rfl
theorem conEnd:Con Tryz.prog entEnd:=by
 refine con_is (C:=csEnd) x19 (by kernel_rfl) (by simp [csEnd,conCkP,conChn,conWorst]) fun x hx hf=>?_
 obtain ⟨⟨(N:Int),(A:List DArc),(C:List DCar),(Q:List DReq),(P:List DPair),(S1:Int),(S2:Int),(S3:Int)⟩,⟨(c:Int),(ss:List DStop),(Lg:List DLeg),(Lv:List Int)⟩,_⟩:=x
 replace hx:ss.length≤24:=hx
 have hz:=endP_eq (N,A,C,Q,P,S1,S2,S3) (c,ss,Lg,Lv)
 have hck:=fun h=>check_ok (w:=(N,A,C,Q,P,S1,S2,S3)) (p:=(c,ss,Lg,Lv)) h
 dsimp only at hz hck
 generalize he:checkP (N,A,C,Q,P,S1,S2,S3) (c,ss,Lg,Lv)=e at hz hck
 by_cases h0:e=0
 ·subst h0
  rw [if_neg (by simp)] at hz
  obtain ⟨_,_,hok,_,_⟩:=hck rfl
  generalize hch:chainF (N,A,C,Q,P,S1,S2,S3) c ss=ch at hz hok
  obtain ⟨⟨W,L,R⟩,e2⟩:=ch
  have hfit:=(okC_fits hok).2
  dsimp only at hfit hz
  have hw:worstF (W,L,R) Lv=(playF Lv (highsF L),0):=by unfold worstF;rw [if_pos hfit]
  have hpl:(playF Lv (highsF L)).length=L.length+1:=by rw [playF_len,highs_len]
  have hlen:=(rightC_iff.1 (fitsG_iff.1 hfit).1).1
  dsimp only at hlen
  have w1:IntKind.i64.wrap (((L.length+1:Nat):Int) - 1)=(L.length:Int):=(i64_in _ (by omega)).trans (by omega)
  rw [hw] at hz
  unfold lastI at hz
  dsimp only at hz
  rw [hpl,Nat.add_sub_cancel] at hz
  have hl0:L.length < L.length+1:=by omega
  dsimp only [entEnd,x19];simp only [↓hcsEnd,entCkP,entChn,entWorst,undef,hx,he,hch,hw,hpl,w1,hl0,Int.toNat_natCast,go_sem,Nat.reduceAdd,Nat.reduceSub,Nat.reduceMul,Nat.reduceLT,Nat.reduceLeDiff,Nat.reduceEqDiff,Nat.reduceBEq,Nat.reduceBNe,List.reduceReplicate,reduceIte,reduceCtorEq,↓reduceIte]
  try simp only [hx,he,hch,hw,hpl,w1,hl0,Int.toNat_natCast,td,reduceCtorEq]
  rw [hz]
 ·rw [if_pos h0] at hz
  dsimp only [entEnd,x19];simp only [↓hcsEnd,entCkP,entChn,entWorst,undef,hx,he,h0,hz,go_sem,Nat.reduceAdd,Nat.reduceSub,Nat.reduceMul,Nat.reduceLT,Nat.reduceLeDiff,Nat.reduceEqDiff,Nat.reduceBEq,Nat.reduceBNe,List.reduceReplicate,reduceIte,reduceCtorEq,↓reduceIte]
  try simp only [hx,he,h0,hz,td,reduceCtorEq]
end T
end Go.Proofs.YtecdcopihghnaaaGreat
end
section
namespace Go.Proofs.YtecdcopihghnaaaGreat
set_option linter.unusedVariables false
set_option linter.unusedSimpArgs false
open Go.RowKit Go.IntWalk
namespace T
def entKs20:Ent:=⟨75,.cons (.st (.cons (.sl (.st (.cons (.int .i64) (.int .i64)))) (.cons (.sl (.st (.cons (.int .i64) (.int .i64)))) (.sl (.st (.cons (.int .i64) (.cons (.int .i64) (.int .i64)))))))) (.cons (.sl (.int .i64)) .nil),.bool,false,none,fun x=>rightC x.1=true,fun x=>keeps20 x.1 x.2.1⟩
def csKs2:List Ent:=[entLs19,entHs19,entRun16,entKp16] theorem hcsKs2 (f:FuncId):findEnt csKs2 f=findEnt [entLs19,entHs19,entRun16,entKp16] f:=rfl
theorem conKs20:Con Tryz.prog entKs20:=by
 refine con_is (C:=csKs2) x75 (by kernel_rfl) (by simp [csKs2,conLs19,conHs19,conRun16,conKp16]) fun x hx hf=>?_
 obtain ⟨⟨(W:List DWin),(L:List DLeg),(R:List DRide)⟩,(g:List Int),_⟩:=x
 replace hx:rightC (W,L,R)=true:=hx
 have hlen:=(rightC_iff.1 hx).1
 dsimp only at hlen
 have hLl:L.length≤1000:=by omega
 have hlo:(lowsF L).length=L.length:=lows_len L
 have hhi:(highsF L).length=L.length:=highs_len L
 have hLi:(L.length:Int)≤1000:=by omega
 have e0:cutF (W,L,R) g (lowsF L) (highsF L) 0=keepsF (W,L,R) (rnF (W,L,R) g (highsF L)).1:=by unfold cutF;rw [List.take_zero,List.drop_zero,List.nil_append]
 have e1:cutF (W,L,R) g (lowsF L) (highsF L) L.length=keepsF (W,L,R) (rnF (W,L,R) g (lowsF L)).1:=by unfold cutF;rw [List.take_of_length_le (by omega),List.drop_of_length_le (by omega),List.append_nil]
 dsimp only [entKs20,x75];simp only [↓hcsKs2,entLs19,entHs19,entRun16,entKp16,undef,hLl,hlo,hhi,go_sem,Nat.reduceAdd,Nat.reduceSub,Nat.reduceMul,Nat.reduceLT,Nat.reduceLeDiff,Nat.reduceEqDiff,Nat.reduceBEq,Nat.reduceBNe,List.reduceReplicate,reduceIte,reduceCtorEq,↓reduceIte]
 try simp only [hLl,hlo,hhi,td,reduceCtorEq]
 have hz:keeps20 (W,L,R) g=((keepsF (W,L,R) (rnF (W,L,R) g (highsF L)).1 && keepsF (W,L,R) (rnF (W,L,R) g (lowsF L)).1) && R.all fun r=>cutF (W,L,R) g (lowsF L) (highsF L) r.1.toNat):=by rw [← e0,← e1];rfl
 refine ⟨fun h=>?_,fun h=>?_⟩
 ·rw [hz]
  rcases h with h | h
  ·rw [h,Bool.and_false];rfl
  ·rw [h];rfl
 rw [h.1,h.2,Bool.true_and,Bool.true_and] at hz
 refine XW_for 1000 x75_0d [0] Nat (fun i=>[(11,.val (.int .i64) (i:Int))]) (fun _=>[]) (fun i=>i≤R.length∧∀ k,k < i→cutF (W,L,R) g (lowsF L) (highsF L) (R.getD k (0,0,0)).1.toNat=true) (fun i=>R.length - i) 0 ?_ ?_ ?_
 ·dsimp only [x75_0d];simp only [go_sem,Nat.reduceAdd,Nat.reduceSub,Nat.reduceMul,Nat.reduceLT,Nat.reduceLeDiff,Nat.reduceEqDiff,Nat.reduceBEq,Nat.reduceBNe,List.reduceReplicate,reduceIte,reduceCtorEq,↓reduceIte];try trivial
 ·exact ⟨Nat.zero_le _,fun k hk=>absurd hk (Nat.not_lt_zero _)⟩
 rintro i ⟨hi,hm⟩
 by_cases hil:i < R.length
 ·have w2:IntKind.i64.wrap ((i:Int)+1)=((i+1:Nat):Int):=i64_in _ (by omega)
  have hrd:=right_ride hx (k:=i) hil
  have hall:cutF (W,L,R) g (lowsF L) (highsF L) (R.getD i (0,0,0)).1.toNat=false→keeps20 (W,L,R) g=false:=fun h=>by
   rw [hz,List.all_eq_false]
   exact ⟨_,getD_mem2 (d:=(0,0,0)) hil,by rw [h];simp⟩
  dsimp only at hrd
  generalize hrr:R.getD i (0,0,0)=rr at hrd hall
  obtain ⟨r1,r2,r3⟩:=rr
  dsimp only at hrd hall
  obtain ⟨r1,rfl⟩:∃ z:Nat,r1=z:=⟨r1.toNat,by omega⟩
  rw [Int.toNat_natCast] at hall
  have hr2:(r1:Int)≤(L.length:Int):=by omega
  have hr3:r1≤L.length:=by omega
  have ht:(highsF L).take L.length=highsF L:=List.take_of_length_le (by omega)
  dsimp only [x75_0,x75_0d];simp only [↓hcsKs2,entLs19,entHs19,entRun16,entKp16,undef,hil,w2,hrr,hLl,hlo,hhi,hr2,hr3,ht,Int.toNat_natCast,go_sem,Nat.reduceAdd,Nat.reduceSub,Nat.reduceMul,Nat.reduceLT,Nat.reduceLeDiff,Nat.reduceEqDiff,Nat.reduceBEq,Nat.reduceBNe,List.reduceReplicate,reduceIte,reduceCtorEq,↓reduceIte]
  try simp only [hil,w2,hrr,hLl,hlo,hhi,hr2,hr3,ht,Int.toNat_natCast,td,reduceCtorEq]
  have l1:((lowsF L).take r1).length≤1000:=by rw [List.length_take];omega
  have l2:((highsF L).drop r1).length≤1000:=by rw [List.length_drop];omega
  refine ⟨⟨Int.le_refl _,by omega,Int.le_refl _,by omega⟩,fun h=>?_,fun h=>⟨i+1,by omega,⟨by omega,fun k hk=>?_⟩,rfl⟩⟩
  ·exact (hall h).symm
  ·rcases Nat.lt_or_ge k i with q | q
   ·exact hm k q
   ·rw [show k=i by omega,hrr]
    exact h
 ·obtain rfl:i=R.length:=by omega
  have hz2:keeps20 (W,L,R) g=true:=by
   rw [hz,List.all_eq_true]
   intro r hrm
   obtain ⟨k,hk,rfl⟩:=List.getElem_of_mem hrm
   have h1:=hm k hk
   have:R.getD k (0,0,0)=R[k]:=by simp [List.getD,hk]
   rw [this] at h1
   exact h1
  dsimp only [x75_0,x75_0d];simp only [↓hcsKs2,entLs19,entHs19,entRun16,entKp16,undef,hil,hz2,go_sem,Nat.reduceAdd,Nat.reduceSub,Nat.reduceMul,Nat.reduceLT,Nat.reduceLeDiff,Nat.reduceEqDiff,Nat.reduceBEq,Nat.reduceBNe,List.reduceReplicate,reduceIte,reduceCtorEq,↓reduceIte]
  try simp only [hil,hz2,td,reduceCtorEq]
end T
end Go.Proofs.YtecdcopihghnaaaGreat
end
section
namespace Go.Proofs.YtecdcopihghnaaaGreat
set_option linter.unusedVariables false
set_option linter.unusedSimpArgs false
open Go.RowKit Go.IntWalk
namespace T
def i3 (n a b:Int):Bool:=decide (a≤n∧n≤b)
def entIn20:Ent:=⟨51,.cons (.int .i64) (.cons (.int .i64) (.cons (.int .i64) .nil)),.bool,false,none,fun _=>True,fun x=>i3 x.1 x.2.1 x.2.2.1⟩
def csIn20:List Ent:=[] theorem hcsIn20 (f:FuncId):findEnt csIn20 f=findEnt [] f:=rfl
theorem conIn20:Con Tryz.prog entIn20:=by
 refine con_is (C:=csIn20) x51 (by kernel_rfl) (by simp [csIn20]) fun x hx hf=>?_
 obtain ⟨(n:Int),(a:Int),(b:Int),_⟩:=x
 dsimp only [entIn20,x51];simp only [↓hcsIn20,go_sem,Nat.reduceAdd,Nat.reduceSub,Nat.reduceMul,Nat.reduceLT,Nat.reduceLeDiff,Nat.reduceEqDiff,Nat.reduceBEq,Nat.reduceBNe,List.reduceReplicate,reduceIte,reduceCtorEq,↓reduceIte];try simp only [td,reduceCtorEq]
 unfold i3
 rw [Bool.eq_iff_iff]
 simp
def entTi20:Ent:=⟨52,.cons (.int .i64) .nil,.bool,false,none,fun _=>True,fun x=>i3 x.1 0 1048576⟩
def csTi20:List Ent:=[entIn20] theorem hcsTi20 (f:FuncId):findEnt csTi20 f=findEnt [entIn20] f:=rfl
theorem conTi20:Con Tryz.prog entTi20:=by
 refine con_is (C:=csTi20) x52 (by kernel_rfl) (by simp [csTi20,conIn20]) fun x hx hf=>?_
 obtain ⟨(n:Int),_⟩:=x
 dsimp only [entTi20,x52];simp only [↓hcsTi20,entIn20,go_sem,Nat.reduceAdd,Nat.reduceSub,Nat.reduceMul,Nat.reduceLT,Nat.reduceLeDiff,Nat.reduceEqDiff,Nat.reduceBEq,Nat.reduceBNe,List.reduceReplicate,reduceIte,reduceCtorEq,↓reduceIte];try simp only [td,reduceCtorEq]
def entPs20:Ent:=⟨72,.cons (.int .i64) (.cons (.int .i64) (.cons (.int .i64) .nil)),.bool,false,none,fun _=>True,fun x=>i3 x.1 0 60 && i3 x.2.1 0 60 && i3 x.2.2.1 0 60⟩
def csPs20:List Ent:=[entIn20] theorem hcsPs20 (f:FuncId):findEnt csPs20 f=findEnt [entIn20] f:=rfl
theorem conPs20:Con Tryz.prog entPs20:=by
 refine con_is (C:=csPs20) x72 (by kernel_rfl) (by simp [csPs20,conIn20]) fun x hx hf=>?_
 obtain ⟨(a:Int),(b:Int),(c:Int),_⟩:=x
 dsimp only [entPs20,x72];simp only [↓hcsPs20,entIn20,go_sem,Nat.reduceAdd,Nat.reduceSub,Nat.reduceMul,Nat.reduceLT,Nat.reduceLeDiff,Nat.reduceEqDiff,Nat.reduceBEq,Nat.reduceBNe,List.reduceReplicate,reduceIte,reduceCtorEq,↓reduceIte];try simp only [td,reduceCtorEq]
theorem carB_iff {m:Int} {c:DCar}:carB m c=true ↔ (0≤c.2.1∧c.2.1≤m)∧((0≤c.2.2.1∧c.2.2.1≤1048576)∧0≤c.2.2.2.1∧c.2.2.2.1≤1048576)∧c.2.2.1≤c.2.2.2.1∧(0≤c.2.2.2.2.1∧c.2.2.2.2.1≤60)∧(0≤c.2.2.2.2.2.1∧c.2.2.2.2.2.1≤60)∧0≤c.2.2.2.2.2.2.1∧c.2.2.2.2.2.2.1≤60:=by
 unfold carB allIn
 simp
theorem reqB_iff {m:Int} {q:DReq}:reqB m q=true ↔ (((0≤q.2.2.2.1∧q.2.2.2.1≤1048576)∧(0≤q.2.2.2.2.1∧q.2.2.2.2.1≤1048576)∧(0≤q.2.2.2.2.2.1∧q.2.2.2.2.2.1≤1048576)∧0≤q.2.2.2.2.2.2.1∧q.2.2.2.2.2.2.1≤1048576)∧q.2.2.2.1≤q.2.2.2.2.1)∧(0≤q.1∧q.1≤3999)∧((0≤q.2.1∧q.2.1≤m)∧0≤q.2.2.1∧q.2.2.1≤m)∧(0≤q.2.2.2.2.2.2.2.1∧q.2.2.2.2.2.2.2.1≤60)∧(0≤q.2.2.2.2.2.2.2.2.1∧q.2.2.2.2.2.2.2.2.1≤60)∧0≤q.2.2.2.2.2.2.2.2.2∧q.2.2.2.2.2.2.2.2.2≤60:=by
 unfold reqB allIn
 simp
theorem prB_iff {p:DPair}:prB p=true ↔ (0≤p.1∧p.1≤3999)∧0≤p.2.1∧p.2.1≤3999:=by
 unfold prB allIn
 simp
theorem i3_iff {n a b:Int}:i3 n a b=true ↔ a≤n∧n≤b:=by unfold i3;simp
theorem i3_not {n a b:Int}:i3 n a b=false ↔ ¬ (a≤n∧n≤b):=by unfold i3;simp
def entRR20:Ent:=⟨31,.cons (.st (.cons (.int .i64) (.cons (.sl (.st (.cons (.int .i64) (.cons (.int .i64) (.cons (.sl (.int .i64)) (.sl (.int .i64))))))) (.cons (.sl (.st (.cons (.int .i64) (.cons (.int .i64) (.cons (.int .i64) (.cons (.int .i64) (.cons (.int .i64) (.cons (.int .i64) (.cons (.int .i64) (.cons (.int .i64) (.int .i64))))))))))) (.cons (.sl (.st (.cons (.int .i64) (.cons (.int .i64) (.cons (.int .i64) (.cons (.int .i64) (.cons (.int .i64) (.cons (.int .i64) (.cons (.int .i64) (.cons (.int .i64) (.cons (.int .i64) (.int .i64)))))))))))) (.cons (.sl (.st (.cons (.int .i64) (.cons (.int .i64) .bool)))) (.st (.cons (.int .i64) (.cons (.int .i64) (.int .i64)))))))))) .nil,.bool,false,none,fun _=>True,fun x=>rightP x.1⟩
def csR20:List Ent:=[entIn20,entTi20,entPs20,entRRoad,entRi19] theorem hcsR20 (f:FuncId):findEnt csR20 f=findEnt [entIn20,entTi20,entPs20,entRRoad,entRi19] f:=rfl
set_option maxHeartbeats 4000000 in
theorem conRR20:Con Tryz.prog entRR20:=by
 refine con_is (C:=csR20) x31 (by kernel_rfl) (by simp [csR20,conIn20,conTi20,conPs20,conRRoad,conRi19]) fun x hx hf=>?_
 obtain ⟨⟨(N:Int),(A:List DArc),(C:List DCar),(Q:List DReq),(P:List DPair),(S1:Int),(S2:Int),(S3:Int)⟩,_⟩:=x
 dsimp only [entRR20,x31];simp only [↓hcsR20,entIn20,entTi20,entPs20,entRRoad,entRi19,go_sem,Nat.reduceAdd,Nat.reduceSub,Nat.reduceMul,Nat.reduceLT,Nat.reduceLeDiff,Nat.reduceEqDiff,Nat.reduceBEq,Nat.reduceBNe,List.reduceReplicate,reduceIte,reduceCtorEq,↓reduceIte];try simp only [td,reduceCtorEq]
 have hno:(rightP (N,A,C,Q,P,S1,S2,S3)=true→False)→false=rightP (N,A,C,Q,P,S1,S2,S3):=fun h=>by
  symm
  rw [← Bool.not_eq_true]
  exact h
 refine ⟨fun h=>hno fun q=>?_,?_⟩
 ·obtain ⟨q1,q2,_⟩:=rightP_iff.1 q
  dsimp only at q1 q2
  rcases h with ((h | h) | h) | h
  ·rw [h] at q1;cases q1
  ·omega
  ·omega
  ·omega
 rintro ⟨⟨⟨h1,h2⟩,h3⟩,h4⟩
 have hn:=rightR_n h1
 have w:IntKind.i64.wrap (N - 1)=N - 1:=i64_in _ (by omega)
 refine XW_for 1000 x31_0d [0] Nat (fun j=>[(3,.val (.int .i64) (j:Int))]) (fun _=>[]) (fun j=>j≤C.length∧∀ k,k < j→carB (N - 1) (C.getD k (0,0,0,0,0,0,0,0,0))=true) (fun j=>C.length - j) 0 ?_ ?_ ?_
 ·dsimp only [x31_0d]
  simp only [go_sem,Nat.reduceAdd,Nat.reduceSub,Nat.reduceMul,Nat.reduceLT,Nat.reduceLeDiff,Nat.reduceEqDiff,Nat.reduceBEq,Nat.reduceBNe,List.reduceReplicate,reduceIte,reduceCtorEq,↓reduceIte]
  try trivial
 ·exact ⟨Nat.zero_le _,fun k hk=>absurd hk (Nat.not_lt_zero _)⟩
 rintro j ⟨hj,hnn⟩
 by_cases hj':j < C.length
 ·have w2:IntKind.i64.wrap ((j:Int)+1)=((j+1:Nat):Int):=i64_in _ (by omega)
  have hji:(j:Int) < (C.length:Int):=by omega
  have hmem:=getD_mem2 (d:=((0,0,0,0,0,0,0,0,0):DCar)) hj'
  generalize hS:C.getD j (0,0,0,0,0,0,0,0,0)=x at hmem
  obtain ⟨o,n,r,e,s,c,b,g,f⟩:=x
  dsimp only [x31_0,x31_0d]
  simp only [↓hcsR20,entIn20,entTi20,entPs20,entRRoad,entRi19,hj',hji,hS,w,w2,go_sem,Nat.reduceAdd,Nat.reduceSub,Nat.reduceMul,Nat.reduceLT,Nat.reduceLeDiff,Nat.reduceEqDiff,Nat.reduceBEq,Nat.reduceBNe,List.reduceReplicate,reduceIte,reduceCtorEq,↓reduceIte]
  try simp only [hj',hji,hS,w,w2,i3_iff,i3_not,td,reduceCtorEq]
  refine ⟨fun h=>hno fun q=>?_,fun h=>⟨j+1,by omega,⟨hj',fun k hk=>?_⟩,rfl⟩⟩
  ·have q2:=carB_iff.1 ((rightP_iff.1 q).2.2.1 _ hmem)
   dsimp only at q2
   omega
  ·by_cases c:k=j
   ·subst c
    rw [hS,carB_iff]
    dsimp only
    omega
   ·exact hnn k (by omega)
 have hC2:∀ x ∈ C,carB (N - 1) x=true:=fun x hx=>by
  obtain ⟨k,hk,rfl⟩:=List.getElem_of_mem hx
  have:=hnn k (by omega)
  rwa [show C.getD k (0,0,0,0,0,0,0,0,0)=C[k] by simp [List.getD,hk]] at this
 have hji:¬ (j:Int) < (C.length:Int):=by omega
 dsimp only [x31_0,x31_0d]
 simp only [↓hcsR20,entIn20,entTi20,entPs20,entRRoad,entRi19,hj',hji,go_sem,Nat.reduceAdd,Nat.reduceSub,Nat.reduceMul,Nat.reduceLT,Nat.reduceLeDiff,Nat.reduceEqDiff,Nat.reduceBEq,Nat.reduceBNe,List.reduceReplicate,reduceIte,reduceCtorEq,↓reduceIte]
 try simp only [hj',hji,td,reduceCtorEq]
 refine XW_for 2000 x31_1d [0] Nat (fun j=>[(5,.val (.int .i64) (j:Int))]) (fun _=>[]) (fun j=>j≤Q.length∧∀ k,k < j→reqB (N - 1) (Q.getD k dReq)=true) (fun j=>Q.length - j) 0 ?_ ?_ ?_
 ·dsimp only [x31_1d]
  simp only [go_sem,Nat.reduceAdd,Nat.reduceSub,Nat.reduceMul,Nat.reduceLT,Nat.reduceLeDiff,Nat.reduceEqDiff,Nat.reduceBEq,Nat.reduceBNe,List.reduceReplicate,reduceIte,reduceCtorEq,↓reduceIte]
  try trivial
 ·exact ⟨Nat.zero_le _,fun k hk=>absurd hk (Nat.not_lt_zero _)⟩
 rintro j ⟨hj,hnn⟩
 by_cases hj':j < Q.length
 ·have w2:IntKind.i64.wrap ((j:Int)+1)=((j+1:Nat):Int):=i64_in _ (by omega)
  have hji:(j:Int) < (Q.length:Int):=by omega
  have hmem:=getD_mem2 (d:=dReq) hj'
  generalize hS:Q.getD j dReq=x at hmem
  have hS':Q.getD j (0,0,0,0,0,0,0,0,0,0)=x:=hS
  obtain ⟨m,f,t,e,l,d,r,s,c,b⟩:=x
  dsimp only [x31_1,x31_1d]
  simp only [↓hcsR20,entIn20,entTi20,entPs20,entRRoad,entRi19,hj',hji,hS',w,w2,go_sem,Nat.reduceAdd,Nat.reduceSub,Nat.reduceMul,Nat.reduceLT,Nat.reduceLeDiff,Nat.reduceEqDiff,Nat.reduceBEq,Nat.reduceBNe,List.reduceReplicate,reduceIte,reduceCtorEq,↓reduceIte]
  try simp only [hj',hji,hS',w,w2,i3_iff,i3_not,td,reduceCtorEq]
  refine ⟨fun h=>hno fun q=>?_,fun h=>⟨j+1,by omega,⟨hj',fun k hk=>?_⟩,rfl⟩⟩
  ·have q2:=reqB_iff.1 ((rightP_iff.1 q).2.2.2.1 _ hmem)
   dsimp only at q2
   omega
  ·by_cases c:k=j
   ·subst c
    rw [hS,reqB_iff]
    dsimp only
    omega
   ·exact hnn k (by omega)
 have hQ2:∀ x ∈ Q,reqB (N - 1) x=true:=fun x hx=>by
  obtain ⟨k,hk,rfl⟩:=List.getElem_of_mem hx
  have:=hnn k (by omega)
  rwa [show Q.getD k dReq=Q[k] by simp [List.getD,hk]] at this
 have hji:¬ (j:Int) < (Q.length:Int):=by omega
 dsimp only [x31_1,x31_1d]
 simp only [↓hcsR20,entIn20,entTi20,entPs20,entRRoad,entRi19,hj',hji,go_sem,Nat.reduceAdd,Nat.reduceSub,Nat.reduceMul,Nat.reduceLT,Nat.reduceLeDiff,Nat.reduceEqDiff,Nat.reduceBEq,Nat.reduceBNe,List.reduceReplicate,reduceIte,reduceCtorEq,↓reduceIte]
 try simp only [hj',hji,td,reduceCtorEq]
 refine XW_for 3000 x31_2d [0] Nat (fun j=>[(7,.val (.int .i64) (j:Int))]) (fun _=>[]) (fun j=>j≤P.length∧∀ k,k < j→prB (P.getD k (0,0,false))=true) (fun j=>P.length - j) 0 ?_ ?_ ?_
 ·dsimp only [x31_2d]
  simp only [go_sem,Nat.reduceAdd,Nat.reduceSub,Nat.reduceMul,Nat.reduceLT,Nat.reduceLeDiff,Nat.reduceEqDiff,Nat.reduceBEq,Nat.reduceBNe,List.reduceReplicate,reduceIte,reduceCtorEq,↓reduceIte]
  try trivial
 ·exact ⟨Nat.zero_le _,fun k hk=>absurd hk (Nat.not_lt_zero _)⟩
 rintro j ⟨hj,hnn⟩
 by_cases hj':j < P.length
 ·have w2:IntKind.i64.wrap ((j:Int)+1)=((j+1:Nat):Int):=i64_in _ (by omega)
  have hji:(j:Int) < (P.length:Int):=by omega
  have hmem:=getD_mem2 (d:=((0,0,false):DPair)) hj'
  generalize hS:P.getD j (0,0,false)=x at hmem
  obtain ⟨a,b,m⟩:=x
  dsimp only [x31_2,x31_2d]
  simp only [↓hcsR20,entIn20,entTi20,entPs20,entRRoad,entRi19,hj',hji,hS,w2,go_sem,Nat.reduceAdd,Nat.reduceSub,Nat.reduceMul,Nat.reduceLT,Nat.reduceLeDiff,Nat.reduceEqDiff,Nat.reduceBEq,Nat.reduceBNe,List.reduceReplicate,reduceIte,reduceCtorEq,↓reduceIte]
  try simp only [hj',hji,hS,w2,i3_iff,i3_not,td,reduceCtorEq]
  refine ⟨fun h=>hno fun q=>?_,fun h=>⟨j+1,by omega,⟨hj',fun k hk=>?_⟩,rfl⟩⟩
  ·have q2:=prB_iff.1 ((rightP_iff.1 q).2.2.2.2.1 _ hmem)
   dsimp only at q2
   omega
  ·by_cases c:k=j
   ·subst c
    rw [hS,prB_iff]
    dsimp only
    omega
   ·exact hnn k (by omega)
 have hP2:∀ x ∈ P,prB x=true:=fun x hx=>by
  obtain ⟨k,hk,rfl⟩:=List.getElem_of_mem hx
  have:=hnn k (by omega)
  rwa [show P.getD k (0,0,false)=P[k] by simp [List.getD,hk]] at this
 have hji:¬ (j:Int) < (P.length:Int):=by omega
 dsimp only [x31_2,x31_2d]
 simp only [↓hcsR20,entIn20,entTi20,entPs20,entRRoad,entRi19,hj',hji,go_sem,Nat.reduceAdd,Nat.reduceSub,Nat.reduceMul,Nat.reduceLT,Nat.reduceLeDiff,Nat.reduceEqDiff,Nat.reduceBEq,Nat.reduceBNe,List.reduceReplicate,reduceIte,reduceCtorEq,↓reduceIte]
 try simp only [hj',hji,td,reduceCtorEq]
 rw [Bool.eq_iff_iff,rightP_iff]
 exact ⟨fun h=>⟨h1,⟨by dsimp only;omega,by dsimp only;omega,by dsimp only;omega⟩,hC2,hQ2,hP2,h⟩,fun h=>h.2.2.2.2.2⟩
end T
end Go.Proofs.YtecdcopihghnaaaGreat
end
section
namespace Go.Proofs.YtecdcopihghnaaaGreat
set_option linter.unusedVariables false
set_option linter.unusedSimpArgs false
open Go.RowKit Go.IntWalk
namespace T
def entTimeR:Ent:=⟨166,.cons (.int .i64) .nil,.bool,false,none,fun _=>True,fun x=>timeB x.1⟩
def csTq:List Ent:=[] theorem hcsTq (f:FuncId):findEnt csTq f=findEnt [] f:=rfl
theorem conTimeR:Con Tryz.prog entTimeR:=by
 refine con_is (C:=csTq) x166 (by kernel_rfl) (by simp [csTq]) fun x hx hf=>?_
 obtain ⟨(t:Int),_⟩:=x
 dsimp only [entTimeR,x166];simp only [↓hcsTq,go_sem,Nat.reduceAdd,Nat.reduceSub,Nat.reduceMul,Nat.reduceLT,Nat.reduceLeDiff,Nat.reduceEqDiff,Nat.reduceBEq,Nat.reduceBNe,List.reduceReplicate,reduceIte,reduceCtorEq,↓reduceIte]
 simp only [td,reduceCtorEq]
 unfold timeB
 rw [Bool.eq_iff_iff,decide_eq_true_iff]
 simp [isTime]
def entNone:Ent:=⟨167,.cons (.int .i64) .nil,(.sl (.st (.cons (.int .i64) (.int .i64)))),false,some 135,fun x=>0≤x.1∧x.1≤2000,fun x=>List.replicate x.1.toNat ((-1:Int),(-1:Int))⟩
def csNo:List Ent:=[] theorem hcsNo (f:FuncId):findEnt csNo f=findEnt [] f:=rfl
theorem conNone:Con Tryz.prog entNone:=by
 refine con_is (C:=csNo) x167 (by kernel_rfl) (by simp [csNo]) fun x hx hf=>?_
 obtain ⟨(n:Int),_⟩:=x
 dsimp only [entNone,x167];simp only [↓hcsNo,go_sem,Nat.reduceAdd,Nat.reduceSub,Nat.reduceMul,Nat.reduceLT,Nat.reduceLeDiff,Nat.reduceEqDiff,Nat.reduceBEq,Nat.reduceBNe,List.reduceReplicate,reduceIte,reduceCtorEq,↓reduceIte]
 try simp only [td,reduceCtorEq]
 have h0:(0:Int)≤n∧n≤2000:=hx
 obtain ⟨n,rfl⟩:∃ m:Nat,n=m:=⟨n.toNat,by omega⟩
 refine XW_for 1000 x167_0d [0] Nat (fun j=>[(3,.own 1),(4,.val (.int .i64) (j:Int))]) (fun j=>[(1,.row 135 (.st (.cons (.int .i64) (.int .i64))) (List.replicate j ((-1:Int),(-1:Int))))]) (fun j=>j≤n) (fun j=>n - j) 0 ?_ ?_ ?_
 ·dsimp only [x167_0d]
  simp only [go_sem,Nat.reduceAdd,Nat.reduceSub,Nat.reduceMul,Nat.reduceLT,Nat.reduceLeDiff,Nat.reduceEqDiff,Nat.reduceBEq,Nat.reduceBNe,List.reduceReplicate,reduceIte,reduceCtorEq,↓reduceIte]
  exact rfl
 ·exact Nat.zero_le n
 ·intro j hj
  have w2:IntKind.i64.wrap ((j:Int)+1)=((j+1:Nat):Int):=i64_in _ (by omega)
  dsimp only [x167_0,x167_0d]
  simp only [w2,↓hcsNo,go_sem,Nat.reduceAdd,Nat.reduceSub,Nat.reduceMul,Nat.reduceLT,Nat.reduceLeDiff,Nat.reduceEqDiff,Nat.reduceBEq,Nat.reduceBNe,List.reduceReplicate,reduceIte,reduceCtorEq,↓reduceIte]
  simp only [td,reduceCtorEq]
  refine ⟨fun h=>⟨?_,j+1,by omega,by omega,rfl,(List.replicate_succ' ..).symm⟩,fun h=>?_⟩
  ·rw [List.length_replicate];omega
  ·obtain rfl:j=n:=by omega
   rfl
end T
end Go.Proofs.YtecdcopihghnaaaGreat
end
section
namespace Go.Proofs.YtecdcopihghnaaaGreat
set_option linter.unusedVariables false
set_option linter.unusedSimpArgs false
open Go.RowKit Go.IntWalk
namespace T
def entREarly:Ent:=⟨106,.cons (.int .i64) (.cons (.sl (.st (.cons (.int .i64) (.cons (.int .i64) (.cons (.sl (.int .i64)) (.sl (.int .i64))))))) (.cons (.int .i64) (.cons (.int .i64) (.cons .bool .nil)))),.cons (.sl (.st (.cons (.int .i64) (.int .i64)))) (.cons (.int .i64) .nil),true,none,fun _=>True,fun x=>earlyF x.1 x.2.1 x.2.2.1 x.2.2.2.1 x.2.2.2.2.1⟩
def csRe:List Ent:=[entRRoad,entTimeR,entNone,entRPass] theorem hcsRe (f:FuncId):findEnt csRe f=findEnt [entRRoad,entTimeR,entNone,entRPass] f:=rfl
theorem conREarly:Con Tryz.prog entREarly:=by
 refine con_is (C:=csRe) x106 (by kernel_rfl) (by simp [csRe,conRRoad,conTimeR,conNone,conRPass]) fun x hx hf=>?_
 obtain ⟨(n:Int),(A:List DArc),(src:Int),(start:Int),(hi:Bool),_⟩:=x
 dsimp only [entREarly,x106];simp only [↓hcsRe,entRRoad,entTimeR,entNone,entRPass,go_sem,Nat.reduceAdd,Nat.reduceSub,Nat.reduceMul,Nat.reduceLT,Nat.reduceLeDiff,Nat.reduceEqDiff,Nat.reduceBEq,Nat.reduceBNe,List.reduceReplicate,reduceIte,reduceCtorEq,↓reduceIte]
 simp only [td,reduceCtorEq];try dsimp only [Ty.den]
 refine ⟨fun h=>?_,fun h=>?_⟩
 ·unfold earlyF
  rw [if_pos]
  cases h1:rightR n A with
  | false=>rfl
  | true =>
   rw [Bool.true_and,Bool.and_eq_false_iff,Bool.and_eq_false_iff,decide_eq_false_iff_not,decide_eq_false_iff_not]
   rcases h with ((h | h) | h) | h
   ·rw [h1] at h;cases h
   ·exact .inl (by omega)
   ·exact .inr (.inl (by omega))
   ·exact .inr (.inr h)
 obtain ⟨⟨n1,n2⟩,hAl,hall⟩:=rightR_all h.1.1.1
 obtain ⟨n,rfl⟩:∃ m:Nat,n=m:=⟨n.toNat,by omega⟩
 obtain ⟨src,rfl⟩:∃ m:Nat,src=m:=⟨src.toNat,by omega⟩
 refine ⟨by omega,by omega,⟨⟨by omega,by rw [List.length_replicate];omega⟩,by rw [List.length_replicate];omega⟩,?_⟩
 have e0:(List.replicate n ((-1:Int),(-1:Int))).getD src (0,0)=(-1,-1):=by
  rw [List.getD_eq_getElem?_getD,List.getElem?_replicate,if_pos (by omega)];rfl
 simp only [Int.toNat_natCast,e0]
 refine XW_for 1000 x106_0d [21,24] (List DLab × List Bool) (fun _=>[]) (fun s=>[(21,.row 135 (.st (.cons (.int .i64) (.int .i64))) s.1),(24,.row 4 .bool s.2)])
  (fun s=>s.1.length=n∧s.2.length=n∧runF false (moveE A hi) A.length (s.2.count false) s.1 s.2=searchF false (moveE A hi) A.length n src start) (fun s=>s.2.count false) ((List.replicate n ((-1:Int),(-1:Int))).set src (start,-1),List.replicate n false) ?_ ?_ ?_
 ·dsimp only [x106_0d]
  simp only [go_sem,Nat.reduceAdd,Nat.reduceSub,Nat.reduceMul,Nat.reduceLT,Nat.reduceLeDiff,Nat.reduceEqDiff,Nat.reduceBEq,Nat.reduceBNe,List.reduceReplicate,reduceIte,reduceCtorEq,↓reduceIte]
 ·exact ⟨by simp,by simp,by simp [searchF]⟩
 ·rintro ⟨L,S⟩ ⟨hL,hS,hrun⟩
  dsimp only at hL hS hrun
  dsimp only [x106_0,x106_0d]
  simp only [↓hcsRe,entRRoad,entTimeR,entNone,entRPass,go_sem,Nat.reduceAdd,Nat.reduceSub,Nat.reduceMul,Nat.reduceLT,Nat.reduceLeDiff,Nat.reduceEqDiff,Nat.reduceBEq,Nat.reduceBNe,List.reduceReplicate,reduceIte,reduceCtorEq,↓reduceIte]
  try simp only [td,reduceCtorEq]
  refine XW_for 2000 x106_1d [21,24] Nat (fun j=>[(14,.val (.int .i64) (pickTo false L S j)),(15,.val (.int .i64) (j:Int))]) (fun _=>[]) (fun j=>j≤n) (fun j=>n - j) 0 ?_ ?_ ?_
  ·dsimp only [x106_1d]
   simp only [go_sem,Nat.reduceAdd,Nat.reduceSub,Nat.reduceMul,Nat.reduceLT,Nat.reduceLeDiff,Nat.reduceEqDiff,Nat.reduceBEq,Nat.reduceBNe,List.reduceReplicate,reduceIte,reduceCtorEq,↓reduceIte]
   exact ⟨rfl,rfl⟩
  ·exact Nat.zero_le n
  ·intro j hj
   dsimp only [x106_1,x106_1d]
   simp only [↓hcsRe,entRRoad,entTimeR,entNone,entRPass,go_sem,Nat.reduceAdd,Nat.reduceSub,Nat.reduceMul,Nat.reduceLT,Nat.reduceLeDiff,Nat.reduceEqDiff,Nat.reduceBEq,Nat.reduceBNe,List.reduceReplicate,reduceIte,reduceCtorEq,↓reduceIte]
   try simp only [td,reduceCtorEq]
   have hbd:=pickTo_bd false L S j
   have hpu:=pickTo_un false L S j
   have w2:IntKind.i64.wrap ((j:Int)+1)=((j+1:Nat):Int):=i64_in _ (by omega)
   refine ⟨fun hj'=>⟨⟨by omega,by omega,fun h=>⟨h,by omega⟩,fun h=>⟨h,by omega⟩,fun h=>⟨h,by omega⟩,fun h=>⟨h,by omega⟩,fun h=>⟨h,by rw [if_neg (by omega)];omega⟩,fun h=>⟨h,by rw [if_neg (by omega)];omega⟩,fun h=>⟨h,fun h'=>⟨h,h'⟩⟩⟩,fun h=>⟨j+1,by omega,by omega,?_,w2⟩,fun h=>⟨j+1,by omega,by omega,?_,w2⟩⟩,fun hj'=>?_⟩
   ·have hq:pickTo false L S j < 0∨betterB false (L.getD j (0,0)).1 (L.getD (pickTo false L S j).toNat (0,0)).1=true:=by
     by_cases hp:pickTo false L S j < 0
     ·exact .inl hp
     ·refine .inr ?_
      have h2:=h.2
      rw [if_neg hp] at h2
      unfold betterB
      rw [if_neg (by have:=(hpu (by omega)).2;omega),if_neg (by decide)]
      exact decide_eq_true (by omega)
    rw [pickTo,if_pos ⟨h.1.1,h.1.2,hq⟩]
   ·rw [pickTo,if_neg]
    rintro ⟨h1,h2,h3⟩
    have h4:=h ⟨h1,h2⟩
    rcases h3 with h3 | h3
    ·omega
    ·rw [if_neg (by omega)] at h4
     unfold betterB at h3
     rw [if_neg (by have:=(hpu (by omega)).2;omega),if_neg (by decide)] at h3
     have:=of_decide_eq_true h3
     omega
   have ej:j=L.length:=by omega
   subst ej
   refine ⟨fun hp=>?_,fun hp=>⟨⟨⟨hp,by omega⟩,by omega⟩,?_⟩⟩
   ·rw [← runF_end hp,hrun]
    unfold earlyF
    rw [if_neg]
    ·rfl
    ·rw [h.1.1.1,decide_eq_true h.1.1.2,decide_eq_true h.1.2,h.2];simp
   obtain ⟨u,hu⟩:∃ u:Nat,pickTo false L S L.length=u:=⟨(pickTo false L S L.length).toNat,by omega⟩
   have hgo:=runF_go (E:=moveE A hi) (m:=A.length) (by omega) hu
   have hun:=(pickTo_un false L S L.length hp).1
   rw [hu] at hun
   replace hun:S.getD u false=false:=hun
   rw [hu] at hbd hp ⊢
   clear hu hp hpu
   rw [show (u:Int).toNat=u from rfl]
   refine XW_for 3000 x106_2d [21,24] Nat (fun j=>[(16,.val (.int .i64) (j:Int))]) (fun j=>[(21,.row 135 (.st (.cons (.int .i64) (.int .i64))) (relaxTo false (moveE A hi) (S.set u true) u j L))]) (fun j=>j≤A.length) (fun j=>A.length - j) 0 ?_ ?_ ?_
   ·dsimp only [x106_2d]
    simp only [go_sem,Nat.reduceAdd,Nat.reduceSub,Nat.reduceMul,Nat.reduceLT,Nat.reduceLeDiff,Nat.reduceEqDiff,Nat.reduceBEq,Nat.reduceBNe,List.reduceReplicate,reduceIte,reduceCtorEq,↓reduceIte]
    exact ⟨rfl,rfl⟩
   ·exact Nat.zero_le _
   ·intro j hj
    dsimp only [x106_2,x106_2d]
    have hl:=relaxTo_length (late:=false) (E:=moveE A hi) (S:=S.set u true) (u:=u) (L:=L) j
    simp only [↓hcsRe,entRRoad,entTimeR,entNone,entRPass,go_sem,Nat.reduceAdd,Nat.reduceSub,Nat.reduceMul,Nat.reduceLT,Nat.reduceLeDiff,Nat.reduceEqDiff,Nat.reduceBEq,Nat.reduceBNe,List.reduceReplicate,reduceIte,reduceCtorEq,↓reduceIte]
    try simp only [td,reduceCtorEq]
    have w2:IntKind.i64.wrap ((j:Int)+1)=((j+1:Nat):Int):=i64_in _ (by omega)
    have hk:j < A.length→_:=fun h=>hall (A.getD j (0,0,[],[])) (by rw [List.getD_eq_getElem?_getD,List.getElem?_eq_getElem h];exact List.getElem_mem _)
    have e1:((moveE A hi j).1=u→relaxTo false (moveE A hi) (S.set u true) u (j+1) L=reachF false (S.set u true) (relaxTo false (moveE A hi) (S.set u true) u j L) (moveE A hi j).2.1.toNat ((moveE A hi j).2.2 ((relaxTo false (moveE A hi) (S.set u true) u j L).getD u (0,0)).1) j)∧(¬ (moveE A hi j).1=u→relaxTo false (moveE A hi) (S.set u true) u (j+1) L=relaxTo false (moveE A hi) (S.set u true) u j L):=⟨fun h=>if_pos h,fun h=>if_neg h⟩
    dsimp only [moveE] at e1
    have hs:(S.set u true).length=n:=by rw [List.length_set];exact hS
    refine ⟨fun hjl=>?_,fun hjl=>?_⟩
    ·replace hk:=hk hjl
     generalize relaxTo false (moveE A hi) (S.set u true) u j L=R at hl e1 ⊢
     generalize (toArc (A.getD j (0,0,[],[]))).passF hi (R.getD u (0,0)).1=t at e1 ⊢
     generalize (A.getD j (0,0,[],[])).2.1=v at e1 hk ⊢
     have hR:R.length=n:=by omega
     have hv:v.toNat < n:=by omega
     generalize S.set u true=S2 at *
     refine ⟨hjl,⟨hjl,fun h=>⟨h,by omega⟩,fun h=>⟨h,by omega⟩⟩,fun h1=>⟨j+1,by omega,by omega,w2,?_⟩,fun hc=>⟨⟨hjl,by omega⟩,?_,fun h1=>⟨by omega,j+1,by omega,by omega,w2,?_⟩,fun h1=>⟨j+1,by omega,by omega,w2,?_⟩⟩⟩
     ·by_cases hk1:(A.getD j (0,0,[],[])).1=(u:Int)
      ·rw [e1.1 hk1,reachF,if_pos (.inl (h1.resolve_left (fun h2=>h2 hk1)))]
      ·rw [e1.2 hk1]
     ·refine ⟨?_,?_,?_,?_,?_,?_,?_,?_,?_,?_,?_⟩ <;> first | exact fun h=>⟨h,by omega⟩ | exact fun h=>⟨h,fun h'=>⟨h,h'⟩⟩
     ·rw [e1.1 hc.1,reachF,if_neg (by rw [hc.2,h1.1];simp),if_pos]
      rcases h1.2 with (h2 | h2) | h2
      ·left;unfold betterB;rw [if_pos h2]
      ·left;unfold betterB;split
       ·rfl
       ·exact decide_eq_true h2
      ·exact .inr h2
     ·rw [e1.1 hc.1,reachF]
      split
      ·rfl
      ·rename_i h2
       rw [not_or] at h2
       have h3:=h1 (by simpa using h2.2)
       rw [if_neg]
       rintro (h4 | h4)
       ·unfold betterB at h4
        rw [if_neg (by omega),if_neg (by decide)] at h4
        have:=of_decide_eq_true h4
        omega
       ·have:=h3.2 h4.1;omega
    ·have ej:j=A.length:=by omega
     subst ej
     refine ⟨(relaxTo false (moveE A hi) (S.set u true) u A.length L,S.set u true),?_,⟨by rw [relaxTo_length];exact hL,hs,by rw [← hrun,hgo]⟩,rfl,rfl⟩
     have:=count_settle (S:=S) (u:=u) (by omega) hun
     dsimp only
     omega
end T
end Go.Proofs.YtecdcopihghnaaaGreat
end
section
namespace Go.Proofs.YtecdcopihghnaaaGreat
set_option linter.unusedVariables false
set_option linter.unusedSimpArgs false
open Go.RowKit Go.IntWalk
namespace T
def entRWay:Ent:=⟨107,.cons (.sl (.st (.cons (.int .i64) (.int .i64)))) (.cons (.sl (.st (.cons (.int .i64) (.cons (.int .i64) (.cons (.sl (.int .i64)) (.sl (.int .i64))))))) (.cons (.int .i64) .nil)),(.sl (.int .i64)),false,none,fun x=>List.length (α:=DLab) x.1≤100000,fun x=>wayF x.1 x.2.1 x.2.2.1⟩
def wayR (L:List DLab) (A:List DArc) (to:Int) (out:List Int):List Int:=if to < 0∨L.length≤to∨out=[]∧(L.getD to.toNat (0,0)).1 = -1 then [] else wayGo L A (L.length - out.length) to out
def csRw:List Ent:=[] theorem hcsRw (f:FuncId):findEnt csRw f=findEnt [] f:=rfl
theorem conRWay:Con Tryz.prog entRWay:=by
 refine con_is (C:=csRw) x107 (by kernel_rfl) (by simp [csRw]) fun x hx hf=>?_
 obtain ⟨(L:List DLab),(A:List DArc),(to:Int),_⟩:=x
 dsimp only [entRWay,x107];simp only [↓hcsRw,go_sem,Nat.reduceAdd,Nat.reduceSub,Nat.reduceMul,Nat.reduceLT,Nat.reduceLeDiff,Nat.reduceEqDiff,Nat.reduceBEq,Nat.reduceBNe,List.reduceReplicate,reduceIte,reduceCtorEq,↓reduceIte]
 try simp only [td,reduceCtorEq]
 try dsimp only [Ty.den]
 have hLl:L.length≤100000:=hx
 have e0:wayF L A to=wayR L A to []:=by unfold wayF wayR;simp
 rw [e0]
 refine XW_for 1000 x107_0d [1] (List Int × Int) (fun s=>[(7,.own 1),(2,.val (.int .i64) s.2)]) (fun s=>[(1,.row 3 (.int .i64) s.1)])
  (fun s=>s.1.length≤L.length∧wayR L A s.2 s.1=wayR L A to []) (fun s=>L.length - s.1.length) ([],to) ?_ ?_ ?_
 ·dsimp only [x107_0d]
  simp only [go_sem,Nat.reduceAdd,Nat.reduceSub,Nat.reduceMul,Nat.reduceLT,Nat.reduceLeDiff,Nat.reduceEqDiff,Nat.reduceBEq,Nat.reduceBNe,List.reduceReplicate,reduceIte,reduceCtorEq,↓reduceIte]
 ·exact ⟨Nat.zero_le _,rfl⟩
 ·rintro ⟨out,to'⟩ ⟨hl,hgo⟩
  dsimp only at hl hgo
  dsimp only [x107_0,x107_0d]
  simp only [↓hcsRw,go_sem,Nat.reduceAdd,Nat.reduceSub,Nat.reduceMul,Nat.reduceLT,Nat.reduceLeDiff,Nat.reduceEqDiff,Nat.reduceBEq,Nat.reduceBNe,List.reduceReplicate,reduceIte,reduceCtorEq,↓reduceIte]
  try simp only [td,reduceCtorEq]
  have go:0≤to'∧to' < L.length→(((out.length:Int)=0→¬(L.getD to'.toNat (0,0)).1 = -1))→wayR L A to []=wayGo L A (L.length - out.length) to' out:=by
   intro h1 h2
   rw [← hgo,wayR,if_neg]
   rintro (h3 | h3 | ⟨h3,h4⟩)
   ·omega
   ·omega
   ·exact h2 (by rw [h3];rfl) h4
  refine ⟨fun h=>?_,fun h=>⟨h.1,fun h1=>?_,fun h1=>⟨fun h2=>?_,fun h2=>⟨fun h3=>?_,fun h3=>⟨h3.1,fun h4=>?_,fun h4=>⟨by omega,h3.1,((L.getD to'.toNat (0,0)).2 :: out,(A.getD (L.getD to'.toNat (0,0)).2.toNat (0,0,[],[])).1),?_,⟨?_,?_⟩,rfl,rfl⟩⟩⟩⟩⟩⟩
  ·rw [← hgo,wayR,if_pos]
   rcases h with (h | h) | h
   ·exact .inl h
   ·exact .inr (.inl h)
   ·omega
  ·rw [← hgo,wayR,if_pos (.inr (.inr ⟨List.length_eq_zero_iff.1 (Int.ofNat_inj.1 h1.1),h1.2⟩))]
  ·rw [go h.1 h1]
   cases L.length - out.length <;> rw [wayGo,if_pos h2]
  ·rw [go h.1 h1]
   by_cases c:out.length=L.length
   ·rw [c,Nat.sub_self,wayGo,if_neg h2]
   ·obtain ⟨f,hf⟩:∃ f,L.length - out.length=f+1:=⟨L.length - out.length - 1,by omega⟩
    rw [hf,wayGo,if_neg h2,if_pos]
    rcases h3 with (h3 | h3) | h3
    ·exact .inl h3
    ·exact .inr (.inl h3)
    ·exact absurd h3 c
  ·rw [go h.1 h1]
   obtain ⟨f,hf⟩:∃ f,L.length - out.length=f+1:=⟨L.length - out.length - 1,by omega⟩
   rw [hf,wayGo,if_neg h2,if_pos (.inr (.inr (.inl h4)))]
  ·dsimp only [List.length_cons];omega
  ·dsimp only [List.length_cons];omega
  ·rw [go h.1 h1]
   obtain ⟨f,hf⟩:∃ f,L.length - out.length=f+1:=⟨L.length - out.length - 1,by omega⟩
   dsimp only
   rw [hf,wayGo,if_neg h2,wayR,List.length_cons,show L.length - (out.length+1)=f by omega]
   by_cases c:(A.getD (L.getD to'.toNat (0,0)).2.toNat (0,0,[],[])).1 < 0∨L.length≤(A.getD (L.getD to'.toNat (0,0)).2.toNat (0,0,[],[])).1
   ·rw [if_pos (c.elim .inl (fun c=>.inr (.inl c))),if_pos (c.elim (fun c=>.inr (.inr (.inr (.inl c)))) (fun c=>.inr (.inr (.inr (.inr c)))))]
   ·rw [not_or] at c
    have n1:¬ (L.getD to'.toNat (0,0)).2 < 0:=Int.not_lt.2 h3.1.1
    have n2:¬ (A.length:Int)≤(L.getD to'.toNat (0,0)).2:=Int.not_le.2 h3.1.2
    rw [if_neg (fun q=>q.elim c.1 (fun q=>q.elim c.2 (fun q=>List.cons_ne_nil _ _ q.1))),if_neg (fun q=>q.elim n1 (fun q=>q.elim n2 (fun q=>q.elim (fun q=>q h4) (fun q=>q.elim c.1 c.2))))]
end T
end Go.Proofs.YtecdcopihghnaaaGreat
end
section
namespace Go.Proofs.YtecdcopihghnaaaGreat
set_option linter.unusedVariables false
set_option linter.unusedSimpArgs false
open Go.RowKit Go.IntWalk
namespace T
theorem low_step (L:List Int) (p:Nat):∀ j,(if L.getD ((p+j) % 24) 0 < lowB L p (j - 1) then L.getD ((p+j) % 24) 0 else lowB L p (j - 1))=lowB L p (j+1 - 1)
 | 0=>by
  show (if L.getD (p % 24) 0 < L.getD (p % 24) 0 then L.getD (p % 24) 0 else L.getD (p % 24) 0)=L.getD (p % 24) 0
  split <;> rfl
 | i+1=>rfl
theorem high_step (L:List Int) (p:Nat):∀ j,(if highB L p (j - 1) < L.getD ((p+j) % 24) 0 then L.getD ((p+j) % 24) 0 else highB L p (j - 1))=highB L p (j+1 - 1)
 | 0=>by
  show (if L.getD (p % 24) 0 < L.getD (p % 24) 0 then L.getD (p % 24) 0 else L.getD (p % 24) 0)=L.getD (p % 24) 0
  split <;> rfl
 | i+1=>rfl
def entBn20:Ent:=⟨108,.cons (.st (.cons (.int .i64) (.cons (.int .i64) (.cons (.sl (.int .i64)) (.sl (.int .i64)))))) (.cons (.int .i64) (.cons (.int .i64) .nil)),.cons (.int .i64) (.cons (.int .i64) .nil),true,none,fun x=>(toArc x.1).rightB=true∧(0≤(x.2.1:Int)∧(x.2.1:Int)≤100000000)∧0≤(x.2.2.1:Int)∧(x.2.2.1:Int)≤100000000,fun x=>((bndF x.1 x.2.1 x.2.2.1).1,(bndF x.1 x.2.1 x.2.2.1).2,())⟩
def csBn2:List Ent:=[] theorem hcsBn2 (f:FuncId):findEnt csBn2 f=findEnt [] f:=rfl
theorem conBn20:Con Tryz.prog entBn20:=by
 refine con_is (C:=csBn2) x108 (by kernel_rfl) (by simp [csBn2]) fun x hx hf=>?_
 obtain ⟨⟨(g:Int),(u:Int),(L:List Int),(H:List Int)⟩,(f:Int),(t:Int),_⟩:=x
 obtain ⟨hr,⟨h1,h2⟩,h3,h4⟩:=hx
 replace hr:(toArc (g,u,L,H)).right:=of_decide_eq_true hr
 replace h1:0≤f:=h1
 replace h2:f≤100000000:=h2
 replace h3:0≤t:=h3
 replace h4:t≤100000000:=h4
 obtain ⟨p,hp⟩:∃ p:Nat,f / 60=p:=⟨(f / 60).toNat,by omega⟩
 obtain ⟨q,hq⟩:∃ q:Nat,t / 60=q:=⟨(t / 60).toNat,by omega⟩
 have e1:IntKind.i64.wrap (f.tdiv 60)=(p:Int):=by
  rw [Int.tdiv_eq_ediv_of_nonneg h1,hp]
  exact i64_in _ (by omega)
 have e2:IntKind.i64.wrap (t.tdiv 60)=(q:Int):=by
  rw [Int.tdiv_eq_ediv_of_nonneg h3,hq]
  exact i64_in _ (by omega)
 have e3:IntKind.i64.wrap ((p:Int)+24)=((p+24:Nat):Int):=i64_in _ (by omega)
 have tm:∀ k:Nat,(k:Int).tmod 24=((k % 24:Nat):Int):=fun k=>by
  rw [Int.tmod_eq_emod_of_nonneg (Int.natCast_nonneg k)]
  rfl
 have hn:hoursN f t=min (q - p) 23:=by unfold hoursN;rw [hp,hq];rfl
 have hL:L.length=24:=hr.2.2.1
 have hH:H.length=24:=hr.2.2.2.1
 have hm:∀ k:Nat,k % 24 < 24:=fun k=>Nat.mod_lt _ (by omega)
 have n60:¬ (60:Int)=0:=by decide
 have n24:¬ (24:Int)=0:=by decide
 dsimp only [entBn20,x108];simp only [↓hcsBn2,e1,e2,e3,tm,hL,hH,hm,n60,n24,Int.toNat_natCast,go_sem,Nat.reduceAdd,Nat.reduceSub,Nat.reduceMul,Nat.reduceLT,Nat.reduceLeDiff,Nat.reduceEqDiff,Nat.reduceBEq,Nat.reduceBNe,List.reduceReplicate,reduceIte,reduceCtorEq,↓reduceIte]
 try simp only [e1,e2,e3,tm,hL,hH,hm,n60,n24,Int.toNat_natCast,td,reduceCtorEq]
 refine XW_for 1000 x108_0d [0] Nat (fun j=>[(10,.val (.int .i64) ((p+j:Nat):Int)),(8,.val (.int .i64) (lowB L p (j - 1))),(9,.val (.int .i64) (highB H p (j - 1)))]) (fun _=>[]) (fun j=>j≤min (q+1 - p) 25) (fun j=>25 - j) 0 ?_ ?_ ?_
 ·dsimp only [x108_0d]
  simp only [go_sem,Nat.reduceAdd,Nat.reduceSub,Nat.reduceMul,Nat.reduceLT,Nat.reduceLeDiff,Nat.reduceEqDiff,Nat.reduceBEq,Nat.reduceBNe,List.reduceReplicate,reduceIte,reduceCtorEq,↓reduceIte]
  exact ⟨rfl,rfl,rfl⟩
 ·exact Nat.zero_le _
 intro j hj
 by_cases hj':j < min (q+1 - p) 25
 ·have hc1:((p+j:Nat):Int)≤(q:Int):=by omega
  have hc2:p+j≤q:=by omega
  have hc3:((p+j:Nat):Int)≤((p+24:Nat):Int):=by omega
  have hc4:p+j≤p+24:=by omega
  have w2:IntKind.i64.wrap (((p+j:Nat):Int)+1)=((p+(j+1):Nat):Int):=(i64_in _ (by omega)).trans (by omega)
  dsimp only [x108_0,x108_0d]
  simp only [↓hcsBn2,e1,e2,e3,hc1,hc2,hc3,hc4,w2,tm,hL,hH,hm,n60,n24,Int.toNat_natCast,go_sem,Nat.reduceAdd,Nat.reduceSub,Nat.reduceMul,Nat.reduceLT,Nat.reduceLeDiff,Nat.reduceEqDiff,Nat.reduceBEq,Nat.reduceBNe,List.reduceReplicate,reduceIte,reduceCtorEq,↓reduceIte]
  try simp only [e1,e2,e3,hc1,hc2,hc3,hc4,w2,tm,hL,hH,hm,n60,n24,Int.toNat_natCast,td,reduceCtorEq]
  exact ⟨j+1,by omega,by omega,rfl,low_step L p j,high_step H p j⟩
 ·have hc:¬ (p+j≤q∧p+j≤p+24):=by omega
  dsimp only [x108_0,x108_0d]
  simp only [↓hcsBn2,e1,e2,e3,n60,n24,Int.toNat_natCast,go_sem,Nat.reduceAdd,Nat.reduceSub,Nat.reduceMul,Nat.reduceLT,Nat.reduceLeDiff,Nat.reduceEqDiff,Nat.reduceBEq,Nat.reduceBNe,List.reduceReplicate,reduceIte,reduceCtorEq,↓reduceIte]
  try simp only [e1,e2,e3,n60,n24,Int.toNat_natCast,td,reduceCtorEq]
  refine ⟨fun h=>absurd (show p+j≤q∧p+j≤p+24 by omega) hc,fun _=>?_⟩
  have hj1:j - 1=min (q - p) 24:=by omega
  unfold bndF
  rw [hn,hp,Int.toNat_natCast,hj1,lowB_24 L p _ (Nat.min_le_right _ _),highB_24 H p _ (Nat.min_le_right _ _),show min (min (q - p) 24) 23=min (q - p) 23 by omega]
def entLr20:Ent:=⟨53,.cons (.st (.cons (.int .i64) (.cons (.sl (.st (.cons (.int .i64) (.cons (.int .i64) (.cons (.sl (.int .i64)) (.sl (.int .i64))))))) (.cons (.sl (.st (.cons (.int .i64) (.cons (.int .i64) (.cons (.int .i64) (.cons (.int .i64) (.cons (.int .i64) (.cons (.int .i64) (.cons (.int .i64) (.cons (.int .i64) (.int .i64))))))))))) (.cons (.sl (.st (.cons (.int .i64) (.cons (.int .i64) (.cons (.int .i64) (.cons (.int .i64) (.cons (.int .i64) (.cons (.int .i64) (.cons (.int .i64) (.cons (.int .i64) (.cons (.int .i64) (.int .i64)))))))))))) (.cons (.sl (.st (.cons (.int .i64) (.cons (.int .i64) .bool)))) (.st (.cons (.int .i64) (.cons (.int .i64) (.int .i64)))))))))) (.cons (.int .i64) (.cons (.int .i64) (.cons (.st (.cons (.int .i64) (.int .i64))) .nil))),.cons (.st (.cons (.int .i64) (.int .i64))) (.cons .bool .nil),true,none,fun x=>rightP x.1=true∧((0≤(x.2.2.2.1:DWin).1∧(x.2.2.2.1:DWin).1≤1048576)∧0≤(x.2.2.2.1:DWin).2∧(x.2.2.2.1:DWin).2≤1048576)∧(x.2.2.2.1:DWin).1≤(x.2.2.2.1:DWin).2,fun x=>((legF x.1 x.2.1 x.2.2.1 x.2.2.2.1).1,(legF x.1 x.2.1 x.2.2.1 x.2.2.2.1).2,())⟩
def csLr2:List Ent:=[entREarly,entRWay,entBn20] theorem hcsLr2 (f:FuncId):findEnt csLr2 f=findEnt [entREarly,entRWay,entBn20] f:=rfl
theorem conLr20:Con Tryz.prog entLr20:=by
 refine con_is (C:=csLr2) x53 (by kernel_rfl) (by simp [csLr2,conREarly,conRWay,conBn20]) fun x hx hf=>?_
 obtain ⟨⟨(N:Int),(A:List DArc),(C:List DCar),(Q:List DReq),(P:List DPair),(S:DShift)⟩,(f:Int),(t:Int),⟨(e:Int),(l:Int)⟩,_⟩:=x
 obtain ⟨hw,⟨⟨h1,h2⟩,h3,h4⟩,h5⟩:=hx
 replace hw:rightP (N,A,C,Q,P,S)=true:=hw
 replace h1:0≤e:=h1
 replace h2:e≤1048576:=h2
 replace h3:0≤l:=h3
 replace h4:l≤1048576:=h4
 replace h5:e≤l:=h5
 have hn:=rightR_n (rightP_iff.1 hw).1
 dsimp only at hn
 by_cases hft:f=t
 ·subst hft
  dsimp only [entLr20,x53];simp only [↓hcsLr2,entREarly,entRWay,entBn20,go_sem,Nat.reduceAdd,Nat.reduceSub,Nat.reduceMul,Nat.reduceLT,Nat.reduceLeDiff,Nat.reduceEqDiff,Nat.reduceBEq,Nat.reduceBNe,List.reduceReplicate,reduceIte,reduceCtorEq,↓reduceIte]
  try simp only [td,reduceCtorEq]
  unfold legF
  rw [if_pos rfl]
 dsimp only [entLr20,x53];simp only [↓hcsLr2,entREarly,entRWay,entBn20,hft,go_sem,Nat.reduceAdd,Nat.reduceSub,Nat.reduceMul,Nat.reduceLT,Nat.reduceLeDiff,Nat.reduceEqDiff,Nat.reduceBEq,Nat.reduceBNe,List.reduceReplicate,reduceIte,reduceCtorEq,↓reduceIte]
 try simp only [hft,td,reduceCtorEq]
 refine ⟨by have:=earlyLen (rightP_iff.1 hw).1 f e true;dsimp only at this;omega,?_⟩
 have hlf:legF (N,A,C,Q,P,S) f t (e,l)=((legWay (N,A,C,Q,P,S) f t (e,l)).foldl (legStep A e l) (0,0),decide (legWay (N,A,C,Q,P,S) f t (e,l)≠[])):=by
  unfold legF
  rw [if_neg hft]
 have hbd:=leg_bd hw f t (e,l)
 have hin:∀ i ∈ legWay (N,A,C,Q,P,S) f t (e,l),0≤i∧i < A.length:=fun i hi=>wayF_in i hi
 dsimp only at hbd
 have hWd:wayF (earlyF N A f e true).1 A t=legWay (N,A,C,Q,P,S) f t (e,l):=rfl
 rw [hWd]
 generalize hWW:legWay (N,A,C,Q,P,S) f t (e,l)=W at hlf hbd hin
 have hwl:W.length≤2000:=by rw [← hWW];exact legWay_len hw f t (e,l)
 refine ⟨fun h0=>?_,fun h0=>?_⟩
 ·have:W=[]:=List.length_eq_zero_iff.1 (by omega)
  subst this
  rw [hlf]
  rfl
 refine XW_for 1000 x53_0d [0,1,2] Nat (fun j=>[(14,.val (.int .i64) (j:Int))]) (fun j=>[(30,.box 72 [.val (.int .i64) ((W.take j).foldl (legStep A e l) (0,0)).1,.val (.int .i64) ((W.take j).foldl (legStep A e l) (0,0)).2])]) (fun j=>j≤W.length) (fun j=>W.length - j) 0 ?_ ?_ ?_
 ·dsimp only [x53_0d]
  simp only [go_sem,Nat.reduceAdd,Nat.reduceSub,Nat.reduceMul,Nat.reduceLT,Nat.reduceLeDiff,Nat.reduceEqDiff,Nat.reduceBEq,Nat.reduceBNe,List.reduceReplicate,reduceIte,reduceCtorEq,↓reduceIte]
  exact ⟨rfl,rfl,rfl⟩
 ·exact Nat.zero_le _
 intro j hj
 have hji:j < W.length→(j:Int) < (W.length:Int):=fun h=>by omega
 by_cases hj':j < W.length
 ·have w2:IntKind.i64.wrap ((j:Int)+1)=((j+1:Nat):Int):=i64_in _ (by omega)
  have hmem:=getD_mem2 (d:=(0:Int)) hj'
  have hk:=hin _ hmem
  have hts:W.take (j+1)=W.take j ++ [W.getD j 0]:=by
   rw [List.take_succ_eq_append_getElem hj']
   simp [List.getD,hj']
  have hb:=hbd j
  have hb2:=hbd (j+1)
  rw [hts,List.foldl_append] at hb2
  generalize hS:W.getD j 0=k at hmem hk hts hb2
  generalize hO:(W.take j).foldl (legStep A e l) (0,0)=out at hb hb2
  obtain ⟨k,rfl⟩:∃ z:Nat,k=z:=⟨k.toNat,by omega⟩
  have hka:k < A.length:=by omega
  have hr:=(hn.2.2.2 _ (getD_mem2 (d:=((0,0,[],[]):DArc)) hka)).1
  have hst:legStep A e l out (k:Int)=(out.1+(bndF (A.getD k (0,0,[],[])) (e+out.1) (l+out.2)).1,out.2+(bndF (A.getD k (0,0,[],[])) (e+out.1) (l+out.2)).2):=rfl
  simp only [List.foldl_cons,List.foldl_nil,hst] at hb2
  obtain ⟨o1,o2⟩:=out
  dsimp only at hb hb2 hst
  have w3:IntKind.i64.wrap (e+o1)=e+o1:=i64_in _ (by omega)
  have w4:IntKind.i64.wrap (l+o2)=l+o2:=i64_in _ (by omega)
  generalize hB:bndF (A.getD k (0,0,[],[])) (e+o1) (l+o2)=bb at hb2 hst
  have hbl:=low_bd (show (toArc (A.getD k (0,0,[],[]))).right from of_decide_eq_true hr) ((e+o1) / 60).toNat (hoursN (e+o1) (l+o2))
  have w5:IntKind.i64.wrap (o1+bb.1)=o1+bb.1:=i64_in _ (by
   rw [← hB]
   unfold bndF
   dsimp only at hbl ⊢
   omega)
  have w6:IntKind.i64.wrap (o2+bb.2)=o2+bb.2:=i64_in _ (by
   rw [← hB]
   unfold bndF
   dsimp only at hbl ⊢
   omega)
  dsimp only [x53_0,x53_0d]
  simp only [↓hcsLr2,entREarly,entRWay,entBn20,hj',hji hj',hS,hO,hka,hr,w2,w3,w4,hB,w5,w6,Int.toNat_natCast,go_sem,Nat.reduceAdd,Nat.reduceSub,Nat.reduceMul,Nat.reduceLT,Nat.reduceLeDiff,Nat.reduceEqDiff,Nat.reduceBEq,Nat.reduceBNe,List.reduceReplicate,reduceIte,reduceCtorEq,↓reduceIte]
  try simp only [hj',hji hj',hS,hO,hka,hr,w2,w3,w4,hB,w5,w6,Int.toNat_natCast,td,reduceCtorEq]
  refine ⟨⟨⟨(by omega:(0:Int)≤e+o1),(by omega:e+o1≤(100000000:Int))⟩,(by omega:(0:Int)≤l+o2),(by omega:l+o2≤(100000000:Int))⟩,j+1,by omega,hj',rfl,?_⟩
  rw [hts,List.foldl_append,hO]
  exact ⟨(congrArg Prod.fst hst).symm,(congrArg Prod.snd hst).symm⟩
 ·obtain rfl:j=W.length:=by omega
  dsimp only [x53_0,x53_0d]
  simp only [↓hcsLr2,entREarly,entRWay,entBn20,hj',go_sem,Nat.reduceAdd,Nat.reduceSub,Nat.reduceMul,Nat.reduceLT,Nat.reduceLeDiff,Nat.reduceEqDiff,Nat.reduceBEq,Nat.reduceBNe,List.reduceReplicate,reduceIte,reduceCtorEq,↓reduceIte]
  try simp only [hj',td,reduceCtorEq]
  rw [hlf]
  try rw [List.take_length]
  rw [show decide (W≠[])=true from decide_eq_true fun z=>h0 (by rw [z];rfl)]
def entLegR:Ent:=⟨24,.cons (.st (.cons (.int .i64) (.cons (.sl (.st (.cons (.int .i64) (.cons (.int .i64) (.cons (.sl (.int .i64)) (.sl (.int .i64))))))) (.cons (.sl (.st (.cons (.int .i64) (.cons (.int .i64) (.cons (.int .i64) (.cons (.int .i64) (.cons (.int .i64) (.cons (.int .i64) (.cons (.int .i64) (.cons (.int .i64) (.int .i64))))))))))) (.cons (.sl (.st (.cons (.int .i64) (.cons (.int .i64) (.cons (.int .i64) (.cons (.int .i64) (.cons (.int .i64) (.cons (.int .i64) (.cons (.int .i64) (.cons (.int .i64) (.cons (.int .i64) (.int .i64)))))))))))) (.cons (.sl (.st (.cons (.int .i64) (.cons (.int .i64) .bool)))) (.st (.cons (.int .i64) (.cons (.int .i64) (.int .i64)))))))))) (.cons (.int .i64) (.cons (.int .i64) (.cons (.st (.cons (.int .i64) (.int .i64))) .nil))),.cons (.st (.cons (.int .i64) (.int .i64))) (.cons .bool .nil),true,none,fun _=>True,fun x=>((LegF x.1 x.2.1 x.2.2.1 x.2.2.2.1).1,(LegF x.1 x.2.1 x.2.2.1 x.2.2.2.1).2,())⟩
def csLeR:List Ent:=[entRR20,entIn20,entTi20,entLr20] theorem hcsLeR (f:FuncId):findEnt csLeR f=findEnt [entRR20,entIn20,entTi20,entLr20] f:=rfl
theorem conLegR:Con Tryz.prog entLegR:=by
 refine con_is (C:=csLeR) x24 (by kernel_rfl) (by simp [csLeR,conRR20,conIn20,conTi20,conLr20]) fun x hx hf=>?_
 obtain ⟨⟨(N:Int),(A:List DArc),(C:List DCar),(Q:List DReq),(P:List DPair),(S1:Int),(S2:Int),(S3:Int)⟩,(f:Int),(t:Int),⟨(e:Int),(l:Int)⟩,_⟩:=x
 dsimp only [entLegR,x24];simp only [↓hcsLeR,entRR20,entIn20,entTi20,entLr20,go_sem,Nat.reduceAdd,Nat.reduceSub,Nat.reduceMul,Nat.reduceLT,Nat.reduceLeDiff,Nat.reduceEqDiff,Nat.reduceBEq,Nat.reduceBNe,List.reduceReplicate,reduceIte,reduceCtorEq,↓reduceIte]
 try simp only [i3_iff,i3_not,td,reduceCtorEq]
 have hwr:rightP (N,A,C,Q,P,S1,S2,S3)=true→IntKind.i64.wrap (N - 1)=N - 1:=fun hw=>by
  have hn:=rightR_n (rightP_iff.1 hw).1
  dsimp only at hn
  exact i64_in _ (by omega)
 refine ⟨fun h=>?_,?_⟩
 ·unfold LegF
  rw [if_neg]
  rintro ⟨q0,⟨q1,q2⟩,⟨q3,q4⟩,q5⟩
  dsimp only at q1 q2 q3 q4 q5
  rw [hwr q0] at h
  rcases h with ((((h | h) | h) | h) | h) | h
  ·rw [h] at q0;cases q0
  ·omega
  ·omega
  ·omega
  ·omega
  ·omega
 ·rintro ⟨⟨⟨⟨⟨h0,h1⟩,h2⟩,h3⟩,h4⟩,h5⟩
  rw [hwr h0] at h1 h2
  refine ⟨⟨h0,⟨h3,h4⟩,h5⟩,?_⟩
  unfold LegF
  rw [if_pos ⟨h0,⟨⟨h1.1,by dsimp only;omega⟩,h2.1,by dsimp only;omega⟩,⟨h3,h4⟩,h5⟩]
end T
end Go.Proofs.YtecdcopihghnaaaGreat
end
section
namespace Go.Proofs.YtecdcopihghnaaaGreat
set_option linter.unusedVariables false
set_option linter.unusedSimpArgs false
open Go.RowKit Go.IntWalk
namespace T
def entAs20:Ent:=⟨54,.cons (.st (.cons (.int .i64) (.cons (.sl (.st (.cons (.int .i64) (.cons (.int .i64) (.cons (.sl (.int .i64)) (.sl (.int .i64))))))) (.cons (.sl (.st (.cons (.int .i64) (.cons (.int .i64) (.cons (.int .i64) (.cons (.int .i64) (.cons (.int .i64) (.cons (.int .i64) (.cons (.int .i64) (.cons (.int .i64) (.int .i64))))))))))) (.cons (.sl (.st (.cons (.int .i64) (.cons (.int .i64) (.cons (.int .i64) (.cons (.int .i64) (.cons (.int .i64) (.cons (.int .i64) (.cons (.int .i64) (.cons (.int .i64) (.cons (.int .i64) (.int .i64)))))))))))) (.cons (.sl (.st (.cons (.int .i64) (.cons (.int .i64) .bool)))) (.st (.cons (.int .i64) (.cons (.int .i64) (.int .i64)))))))))) (.cons (.int .i64) (.cons (.sl (.st (.cons (.int .i64) .bool))) .nil)),.bool,false,none,fun _=>True,fun x=>asksF x.1 x.2.1 x.2.2.1⟩
def csAs2:List Ent:=[entRR20,entIn20,entRRightS] theorem hcsAs2 (f:FuncId):findEnt csAs2 f=findEnt [entRR20,entIn20,entRRightS] f:=rfl
set_option maxHeartbeats 4000000 in
theorem conAs20:Con Tryz.prog entAs20:=by
 refine con_is (C:=csAs2) x54 (by kernel_rfl) (by simp [csAs2,conRR20,conIn20,conRRightS]) fun x hx hf=>?_
 obtain ⟨⟨(N:Int),(A:List DArc),(C:List DCar),(Q:List DReq),(P:List DPair),(S1:Int),(S2:Int),(S3:Int)⟩,(c:Int),(ss:List DStop),_⟩:=x
 cases hw:rightP (N,A,C,Q,P,S1,S2,S3) with
 | false =>
  have hz:asksF (N,A,C,Q,P,S1,S2,S3) c ss=false:=by unfold asksF;rw [hw];rfl
  dsimp only [entAs20,x54];simp only [↓hcsAs2,entRR20,entIn20,entRRightS,undef,hw,hz,go_sem,Nat.reduceAdd,Nat.reduceSub,Nat.reduceMul,Nat.reduceLT,Nat.reduceLeDiff,Nat.reduceEqDiff,Nat.reduceBEq,Nat.reduceBNe,List.reduceReplicate,reduceIte,reduceCtorEq,↓reduceIte]
  try simp only [hw,hz,td,reduceCtorEq]
 | true =>
  have hcl:C.length≤600:=(rightP_iff.1 hw).2.1.1
  have w:IntKind.i64.wrap ((C.length:Int) - 1)=(C.length:Int) - 1:=i64_in _ (by omega)
  have hz:asksF (N,A,C,Q,P,S1,S2,S3) c ss=(i3 c 0 ((C.length:Int) - 1) && rightS ss Q):=by
   unfold asksF i3
   rw [hw,Bool.true_and]
   congr 1
   rw [Bool.eq_iff_iff]
   simp
   try omega
  cases h1:i3 c 0 ((C.length:Int) - 1) with
  | false =>
   rw [h1] at hz
   dsimp only [entAs20,x54];simp only [↓hcsAs2,entRR20,entIn20,entRRightS,undef,hw,hz,w,h1,go_sem,Nat.reduceAdd,Nat.reduceSub,Nat.reduceMul,Nat.reduceLT,Nat.reduceLeDiff,Nat.reduceEqDiff,Nat.reduceBEq,Nat.reduceBNe,List.reduceReplicate,reduceIte,reduceCtorEq,↓reduceIte]
   try simp only [hw,hz,w,h1,td,reduceCtorEq]
  | true =>
   rw [h1] at hz
   dsimp only [entAs20,x54];simp only [↓hcsAs2,entRR20,entIn20,entRRightS,undef,hw,hz,w,h1,go_sem,Nat.reduceAdd,Nat.reduceSub,Nat.reduceMul,Nat.reduceLT,Nat.reduceLeDiff,Nat.reduceEqDiff,Nat.reduceBEq,Nat.reduceBNe,List.reduceReplicate,reduceIte,reduceCtorEq,↓reduceIte]
   try simp only [hw,hz,w,h1,td,reduceCtorEq]
def entNd20:Ent:=⟨56,.cons (.st (.cons (.int .i64) (.cons (.sl (.st (.cons (.int .i64) (.cons (.int .i64) (.cons (.sl (.int .i64)) (.sl (.int .i64))))))) (.cons (.sl (.st (.cons (.int .i64) (.cons (.int .i64) (.cons (.int .i64) (.cons (.int .i64) (.cons (.int .i64) (.cons (.int .i64) (.cons (.int .i64) (.cons (.int .i64) (.int .i64))))))))))) (.cons (.sl (.st (.cons (.int .i64) (.cons (.int .i64) (.cons (.int .i64) (.cons (.int .i64) (.cons (.int .i64) (.cons (.int .i64) (.cons (.int .i64) (.cons (.int .i64) (.cons (.int .i64) (.int .i64)))))))))))) (.cons (.sl (.st (.cons (.int .i64) (.cons (.int .i64) .bool)))) (.st (.cons (.int .i64) (.cons (.int .i64) (.int .i64)))))))))) (.cons (.int .i64) (.cons (.sl (.st (.cons (.int .i64) .bool))) (.cons (.int .i64) .nil))),(.int .i64),false,none,fun x=>asksF x.1 x.2.1 x.2.2.1=true∧0≤(x.2.2.2.1:Int)∧(x.2.2.2.1:Int)≤(x.2.2.1:List DStop).length,fun x=>nodeF x.1 x.2.1 x.2.2.1 (x.2.2.2.1:Int).toNat⟩
def csNd2:List Ent:=[] theorem hcsNd2 (f:FuncId):findEnt csNd2 f=findEnt [] f:=rfl
theorem conNd20:Con Tryz.prog entNd20:=by
 refine con_is (C:=csNd2) x56 (by kernel_rfl) (by simp [csNd2]) fun x hx hf=>?_
 obtain ⟨⟨(N:Int),(A:List DArc),(C:List DCar),(Q:List DReq),(P:List DPair),(S1:Int),(S2:Int),(S3:Int)⟩,(c:Int),(ss:List DStop),(k:Int),_⟩:=x
 obtain ⟨ha,h1,h2⟩:=hx
 replace ha:asksF (N,A,C,Q,P,S1,S2,S3) c ss=true:=ha
 replace h1:0≤k:=h1
 replace h2:k≤(ss.length:Int):=h2
 obtain ⟨hw,hc,h3⟩:=asks_iff.1 ha
 dsimp only at hc h3
 obtain ⟨c,rfl⟩:∃ z:Nat,c=z:=⟨c.toNat,by omega⟩
 have hcl:c < C.length:=by omega
 have hca:carAt (N,A,C,Q,P,S1,S2,S3) (c:Int)=C.getD c (0,0,0,0,0,0,0,0,0):=rfl
 by_cases hk:k=0
 ·subst hk
  have hn:nodeF (N,A,C,Q,P,S1,S2,S3) (c:Int) ss (Int.toNat 0)=(C.getD c (0,0,0,0,0,0,0,0,0)).2.1:=rfl
  dsimp only [entNd20,x56];simp only [↓hcsNd2,hcl,hn,Int.toNat_natCast,go_sem,Nat.reduceAdd,Nat.reduceSub,Nat.reduceMul,Nat.reduceLT,Nat.reduceLeDiff,Nat.reduceEqDiff,Nat.reduceBEq,Nat.reduceBNe,List.reduceReplicate,reduceIte,reduceCtorEq,↓reduceIte]
  try simp only [hcl,hn,Int.toNat_natCast,td,reduceCtorEq]
  rfl
 obtain ⟨k,rfl⟩:∃ z:Nat,k=((z+1:Nat):Int):=⟨k.toNat - 1,by omega⟩
 have hkl:k < ss.length:=by omega
 have w:IntKind.i64.wrap (((k+1:Nat):Int) - 1)=(k:Int):=(i64_in _ (by have:=h3.1.1;omega)).trans (by omega)
 have hq:=(h3.2 k hkl).1
 have hn:=nodeF_s (N,A,C,Q,P,S1,S2,S3) (c:Int) ss k
 generalize hS:ss.getD k dStop=st at hq hn
 have hS':ss.getD k (0,false)=st:=hS
 obtain ⟨r',p⟩:=st
 dsimp only at hq hn
 obtain ⟨r',rfl⟩:∃ z:Nat,r' = z:=⟨r'.toNat,by omega⟩
 have hql:r' < Q.length:=by omega
 have e1:reqAt (N,A,C,Q,P,S1,S2,S3) (r':Int)=Q.getD r' (0,0,0,0,0,0,0,0,0,0):=rfl
 rw [e1] at hn
 cases p with
 | true =>
  rw [if_pos rfl] at hn
  dsimp only [entNd20,x56];simp only [↓hcsNd2,hk,w,hkl,hS',hql,hn,Int.toNat_natCast,go_sem,Nat.reduceAdd,Nat.reduceSub,Nat.reduceMul,Nat.reduceLT,Nat.reduceLeDiff,Nat.reduceEqDiff,Nat.reduceBEq,Nat.reduceBNe,List.reduceReplicate,reduceIte,reduceCtorEq,↓reduceIte]
  try simp only [hk,w,hkl,hS',hql,hn,Int.toNat_natCast,td,reduceCtorEq]
 | false =>
  rw [if_neg (by simp)] at hn
  dsimp only [entNd20,x56];simp only [↓hcsNd2,hk,w,hkl,hS',hql,hn,Int.toNat_natCast,go_sem,Nat.reduceAdd,Nat.reduceSub,Nat.reduceMul,Nat.reduceLT,Nat.reduceLeDiff,Nat.reduceEqDiff,Nat.reduceBEq,Nat.reduceBNe,List.reduceReplicate,reduceIte,reduceCtorEq,↓reduceIte]
  try simp only [hk,w,hkl,hS',hql,hn,Int.toNat_natCast,td,reduceCtorEq]
theorem pick_before {ss:List DStop} {rs:List DReq} (h:RightS ss rs) {j k:Nat} (hj:j < ss.length) (hk:k < ss.length) {r:Int} (ej:ss.getD j dStop=(r,true)) (ek:ss.getD k dStop=(r,false)):(r,true) ∈ ss.take k:=by
 obtain ⟨m,h1,h2,h3⟩:=pick_drop h hj (by rw [ej])
 have e1:=h.at_eq h2
 have e2:=h.at_eq hk
 rw [h3,ej] at e1
 rw [ek] at e2
 have:m=k:=by
  have:=e1.symm.trans e2
  omega
 have:=mem_take_of hj (j:=k) (by omega)
 rwa [ej] at this
def entWn20:Ent:=⟨55,.cons (.st (.cons (.int .i64) (.cons (.sl (.st (.cons (.int .i64) (.cons (.int .i64) (.cons (.sl (.int .i64)) (.sl (.int .i64))))))) (.cons (.sl (.st (.cons (.int .i64) (.cons (.int .i64) (.cons (.int .i64) (.cons (.int .i64) (.cons (.int .i64) (.cons (.int .i64) (.cons (.int .i64) (.cons (.int .i64) (.int .i64))))))))))) (.cons (.sl (.st (.cons (.int .i64) (.cons (.int .i64) (.cons (.int .i64) (.cons (.int .i64) (.cons (.int .i64) (.cons (.int .i64) (.cons (.int .i64) (.cons (.int .i64) (.cons (.int .i64) (.int .i64)))))))))))) (.cons (.sl (.st (.cons (.int .i64) (.cons (.int .i64) .bool)))) (.st (.cons (.int .i64) (.cons (.int .i64) (.int .i64)))))))))) (.cons (.int .i64) (.cons (.sl (.st (.cons (.int .i64) .bool))) (.cons (.int .i64) .nil))),(.st (.cons (.int .i64) (.int .i64))),false,none,fun x=>asksF x.1 x.2.1 x.2.2.1=true∧0≤(x.2.2.2.1:Int)∧(x.2.2.2.1:Int)≤(x.2.2.1:List DStop).length,fun x=>winF x.1 x.2.1 x.2.2.1 (x.2.2.2.1:Int).toNat⟩
def csWn2:List Ent:=[] theorem hcsWn2 (f:FuncId):findEnt csWn2 f=findEnt [] f:=rfl
theorem conWn20:Con Tryz.prog entWn20:=by
 refine con_is (C:=csWn2) x55 (by kernel_rfl) (by simp [csWn2]) fun x hx hf=>?_
 obtain ⟨⟨(N:Int),(A:List DArc),(C:List DCar),(Q:List DReq),(P:List DPair),(S1:Int),(S2:Int),(S3:Int)⟩,(c:Int),(ss:List DStop),(k:Int),_⟩:=x
 obtain ⟨ha,h1,h2⟩:=hx
 replace ha:asksF (N,A,C,Q,P,S1,S2,S3) c ss=true:=ha
 replace h1:0≤k:=h1
 replace h2:k≤(ss.length:Int):=h2
 obtain ⟨hw,hc,h3⟩:=asks_iff.1 ha
 dsimp only at hc h3
 obtain ⟨c,rfl⟩:∃ z:Nat,c=z:=⟨c.toNat,by omega⟩
 have hcl:c < C.length:=by omega
 have hca:carAt (N,A,C,Q,P,S1,S2,S3) (c:Int)=C.getD c (0,0,0,0,0,0,0,0,0):=rfl
 by_cases hk:k=0
 ·subst hk
  have hn:winF (N,A,C,Q,P,S1,S2,S3) (c:Int) ss (Int.toNat 0)=((C.getD c (0,0,0,0,0,0,0,0,0)).2.2.1,(C.getD c (0,0,0,0,0,0,0,0,0)).2.2.2.1):=rfl
  dsimp only [entWn20,x55];simp only [↓hcsWn2,hcl,hn,Int.toNat_natCast,go_sem,Nat.reduceAdd,Nat.reduceSub,Nat.reduceMul,Nat.reduceLT,Nat.reduceLeDiff,Nat.reduceEqDiff,Nat.reduceBEq,Nat.reduceBNe,List.reduceReplicate,reduceIte,reduceCtorEq,↓reduceIte]
  try simp only [hcl,hn,Int.toNat_natCast,td,reduceCtorEq]
  rfl
 obtain ⟨k,rfl⟩:∃ z:Nat,k=((z+1:Nat):Int):=⟨k.toNat - 1,by omega⟩
 have hkl:k < ss.length:=by omega
 have w:IntKind.i64.wrap (((k+1:Nat):Int) - 1)=(k:Int):=(i64_in _ (by have:=h3.1.1;omega)).trans (by omega)
 have hq:=(h3.2 k hkl).1
 have hn:=winF_s (N,A,C,Q,P,S1,S2,S3) (c:Int) ss k
 have hpb:=fun {j:Nat} {r:Int} hj=>pick_before h3 (j:=j) (r:=r) hj hkl
 rw [hca] at hn
 generalize hS:ss.getD k dStop=st at hq hn hpb
 have hS':ss.getD k (0,false)=st:=hS
 obtain ⟨r,p⟩:=st
 dsimp only at hq hn
 obtain ⟨r,rfl⟩:∃ z:Nat,r=z:=⟨r.toNat,by omega⟩
 have hql:r < Q.length:=by omega
 have e1:reqAt (N,A,C,Q,P,S1,S2,S3) (r:Int)=Q.getD r (0,0,0,0,0,0,0,0,0,0):=rfl
 rw [e1] at hn
 generalize hK:C.getD c (0,0,0,0,0,0,0,0,0)=car at hn
 generalize hQ:Q.getD r (0,0,0,0,0,0,0,0,0,0)=q at hn
 obtain ⟨k1,k2,k3,k4,k5,k6,k7,k8,k9⟩:=car
 obtain ⟨q1,q2,q3,q4,q5,q6,q7,q8⟩:=q
 unfold minI at hn
 dsimp only at hn
 cases p with
 | true =>
  rw [if_pos rfl] at hn
  dsimp only [entWn20,x55];simp only [↓hcsWn2,hk,w,hkl,hS',hql,hcl,hK,hQ,hn,Int.toNat_natCast,go_sem,Nat.reduceAdd,Nat.reduceSub,Nat.reduceMul,Nat.reduceLT,Nat.reduceLeDiff,Nat.reduceEqDiff,Nat.reduceBEq,Nat.reduceBNe,List.reduceReplicate,reduceIte,reduceCtorEq,↓reduceIte]
  try simp only [hk,w,hkl,hS',hql,hcl,hK,hQ,hn,Int.toNat_natCast,td,reduceCtorEq]
 | false =>
  rw [if_neg (by simp)] at hn
  dsimp only [entWn20,x55];simp only [↓hcsWn2,hk,w,hkl,hS',hql,hcl,hK,hQ,Int.toNat_natCast,go_sem,Nat.reduceAdd,Nat.reduceSub,Nat.reduceMul,Nat.reduceLT,Nat.reduceLeDiff,Nat.reduceEqDiff,Nat.reduceBEq,Nat.reduceBNe,List.reduceReplicate,reduceIte,reduceCtorEq,↓reduceIte]
  try simp only [hk,w,hkl,hS',hql,hcl,hK,hQ,Int.toNat_natCast,td,reduceCtorEq]
  have hres:∀ x y:Int,(x,y)=winF (N,A,C,Q,P,S1,S2,S3) (c:Int) ss (Int.toNat ((k+1:Nat):Int)) ↔ (x,y)=winF (N,A,C,Q,P,S1,S2,S3) (c:Int) ss (k+1):=fun _ _=>Iff.rfl
  refine XW_for 1000 x55_0d [0,1,7,16,24] Nat (fun j=>[(12,.val (.int .i64) (j:Int))]) (fun _=>[]) (fun j=>j≤ss.length∧((r:Int),true) ∉ ss.take j) (fun j=>ss.length - j) 0 ?_ ?_ ?_
  ·dsimp only [x55_0d];simp only [go_sem,Nat.reduceAdd,Nat.reduceSub,Nat.reduceMul,Nat.reduceLT,Nat.reduceLeDiff,Nat.reduceEqDiff,Nat.reduceBEq,Nat.reduceBNe,List.reduceReplicate,reduceIte,reduceCtorEq,↓reduceIte];try trivial
  ·exact ⟨Nat.zero_le _,by simp⟩
  ·rintro j ⟨hj,hno⟩
   by_cases hjl:j < ss.length
   ·have w2:IntKind.i64.wrap ((j:Int)+1)=((j+1:Nat):Int):=i64_in _ (by have:=h3.1.1;omega)
    have ht:=take_next hjl
    replace hpb:=fun r=>hpb (j:=j) (r:=r) hjl
    generalize hT:ss.getD j dStop=t at ht hpb
    have hT':ss.getD j (0,false)=t:=hT
    obtain ⟨t1,t2⟩:=t
    have hnx:¬ (t1=(r:Int)∧t2=true)→((r:Int),true) ∉ ss.take (j+1):=fun h h'=>by
     rw [ht] at h'
     rcases List.mem_append.1 h' with h' | h'
     ·exact hno h'
     ·have:=List.mem_singleton.1 h'
      rw [Prod.mk.injEq] at this
      exact h ⟨this.1.symm,this.2.symm⟩
    dsimp only [x55_0,x55_0d];simp only [↓hcsWn2,hjl,w2,hT',hcl,hK,hQ,go_sem,Nat.reduceAdd,Nat.reduceSub,Nat.reduceMul,Nat.reduceLT,Nat.reduceLeDiff,Nat.reduceEqDiff,Nat.reduceBEq,Nat.reduceBNe,List.reduceReplicate,reduceIte,reduceCtorEq,↓reduceIte]
    simp only [hjl,w2,hT',hcl,hK,hQ,td,reduceCtorEq]
    refine ⟨fun h=>?_,fun h=>⟨j+1,by omega,⟨by omega,hnx fun q=>?_⟩,rfl⟩⟩
    ·rw [hn,if_pos (hpb (r:Int) (by rw [h.1,h.2]) rfl)]
    ·have:=h q.1
     rw [q.2] at this
     exact Bool.noConfusion this
   ·dsimp only [x55_0,x55_0d];simp only [↓hcsWn2,hjl,hcl,hK,hQ,go_sem,Nat.reduceAdd,Nat.reduceSub,Nat.reduceMul,Nat.reduceLT,Nat.reduceLeDiff,Nat.reduceEqDiff,Nat.reduceBEq,Nat.reduceBNe,List.reduceReplicate,reduceIte,reduceCtorEq,↓reduceIte]
    simp only [hjl,hcl,hK,hQ,td,reduceCtorEq]
    have hj2:j=ss.length:=by omega
    subst hj2
    have hno':¬ ((r:Int),true) ∈ ss.take k:=fun h=>hno (by rw [List.take_length];exact List.mem_of_mem_take h)
    rw [if_neg hno'] at hn
    rw [hn]
end T
end Go.Proofs.YtecdcopihghnaaaGreat
end
section
namespace Go.Proofs.YtecdcopihghnaaaGreat
set_option linter.unusedVariables false
set_option linter.unusedSimpArgs false
open Go.RowKit Go.IntWalk
namespace T
theorem ridesR_no (w:DWorld) {ss:List DStop} {j:Nat} (h:(ss.getD j dStop).2=false):ridesR w ss j=ridesR w ss (j+1):=by
 unfold ridesR
 rw [List.range_succ,List.filter_append,List.filter_cons_of_neg (by rw [h];simp),List.filter_nil,List.append_nil]
theorem ridesR_yes (w:DWorld) {ss:List DStop} {j:Nat} (h:(ss.getD j dStop).2=true):ridesR w ss j ++ [rideR w ss j]=ridesR w ss (j+1):=by
 unfold ridesR
 rw [List.range_succ,List.filter_append,List.filter_cons_of_pos (p:=fun k=>(ss.getD k dStop).2) h,List.map_append];rfl
theorem ridesR_le (w:DWorld) (ss:List DStop) (j:Nat):(ridesR w ss j).length≤j:=by
 unfold ridesR
 rw [List.length_map]
 exact Nat.le_trans (List.length_filter_le _ _) (by rw [List.length_range];omega)
def entChR:Ent:=⟨25,.cons (.st (.cons (.int .i64) (.cons (.sl (.st (.cons (.int .i64) (.cons (.int .i64) (.cons (.sl (.int .i64)) (.sl (.int .i64))))))) (.cons (.sl (.st (.cons (.int .i64) (.cons (.int .i64) (.cons (.int .i64) (.cons (.int .i64) (.cons (.int .i64) (.cons (.int .i64) (.cons (.int .i64) (.cons (.int .i64) (.int .i64))))))))))) (.cons (.sl (.st (.cons (.int .i64) (.cons (.int .i64) (.cons (.int .i64) (.cons (.int .i64) (.cons (.int .i64) (.cons (.int .i64) (.cons (.int .i64) (.cons (.int .i64) (.cons (.int .i64) (.int .i64)))))))))))) (.cons (.sl (.st (.cons (.int .i64) (.cons (.int .i64) .bool)))) (.st (.cons (.int .i64) (.cons (.int .i64) (.int .i64)))))))))) (.cons (.int .i64) (.cons (.sl (.st (.cons (.int .i64) .bool))) .nil)),.cons (.st (.cons (.sl (.st (.cons (.int .i64) (.int .i64)))) (.cons (.sl (.st (.cons (.int .i64) (.int .i64)))) (.sl (.st (.cons (.int .i64) (.cons (.int .i64) (.int .i64)))))))) (.cons (.int .i64) .nil),true,none,fun _=>True,fun x=>((chainF x.1 x.2.1 x.2.2.1).1,(chainF x.1 x.2.1 x.2.2.1).2,())⟩
def csChR:List Ent:=[entAs20,entLr20,entNd20,entWn20] theorem hcsChR (f:FuncId):findEnt csChR f=findEnt [entAs20,entLr20,entNd20,entWn20] f:=rfl
set_option maxRecDepth 10000 in
set_option maxHeartbeats 4000000 in
theorem conChR:Con Tryz.prog entChR:=by
 refine con_is (C:=csChR) x25 (by kernel_rfl) (by simp [csChR,conAs20,conLr20,conNd20,conWn20]) fun x hx hf=>?_
 obtain ⟨⟨(N:Int),(A:List DArc),(C:List DCar),(Q:List DReq),(P:List DPair),(S1:Int),(S2:Int),(S3:Int)⟩,(c:Int),(ss:List DStop),_⟩:=x
 cases ha:asksF (N,A,C,Q,P,S1,S2,S3) c ss with
 | false =>
  have hz:chainF (N,A,C,Q,P,S1,S2,S3) c ss=(([],[],[]),1):=by unfold chainF;rw [if_pos ha];rfl
  dsimp only [entChR,x25];simp only [↓hcsChR,entAs20,entLr20,entNd20,entWn20,ha,hz,go_sem,Nat.reduceAdd,Nat.reduceSub,Nat.reduceMul,Nat.reduceLT,Nat.reduceLeDiff,Nat.reduceEqDiff,Nat.reduceBEq,Nat.reduceBNe,List.reduceReplicate,reduceIte,reduceCtorEq,↓reduceIte]
  try simp only [ha,hz,td,reduceCtorEq]
 | true =>
  obtain ⟨hw,hc,hss⟩:=asks_iff.1 ha
  dsimp only at hc hss
  dsimp only [entChR,x25];simp only [↓hcsChR,entAs20,entLr20,entNd20,entWn20,ha,Int.toNat_natCast,go_sem,Nat.reduceAdd,Nat.reduceSub,Nat.reduceMul,Nat.reduceLT,Nat.reduceLeDiff,Nat.reduceEqDiff,Nat.reduceBEq,Nat.reduceBNe,List.reduceReplicate,reduceIte,reduceCtorEq,↓reduceIte]
  try simp only [ha,Int.toNat_natCast,td,reduceCtorEq]
  have hL80:ss.length≤80:=hss.1.1
  refine XW_nilb 9 0 70 (.st (.cons (.int .i64) (.int .i64))) rfl rfl ?_
  refine XW_nilb 9 1 72 (.st (.cons (.int .i64) (.int .i64))) rfl rfl ?_
  refine XW_nilb 9 2 102 (.st (.cons (.int .i64) (.cons (.int .i64) (.int .i64)))) rfl rfl ?_
  refine XW_for 1000 x25_0d [0,1,14,16] Nat (fun k=>[(9,.val (.int .i64) (k:Int))])
   (fun k=>[(9,.box 46 [.own 12,.own 14,.own 16]),(12,.row 70 (.st (.cons (.int .i64) (.int .i64))) ((List.range k).map (winF (N,A,C,Q,P,S1,S2,S3) c ss)))])
   (fun k=>k≤ss.length+1∧∀ i,i < k→badW (N,A,C,Q,P,S1,S2,S3) c ss i=false) (fun k=>ss.length+1 - k) 0 ?_ ?_ ?_
  ·dsimp only [x25_0d];simp only [go_sem,Nat.reduceAdd,Nat.reduceSub,Nat.reduceMul,Nat.reduceLT,Nat.reduceLeDiff,Nat.reduceEqDiff,Nat.reduceBEq,Nat.reduceBNe,List.reduceReplicate,reduceIte,reduceCtorEq,↓reduceIte];try trivial
  ·exact ⟨Nat.zero_le _,fun i hi=>by omega⟩
  ·rintro k ⟨hk,hB⟩
   by_cases hkl:k≤ss.length
   ·have w2:IntKind.i64.wrap ((k:Int)+1)=((k+1:Nat):Int):=i64_in _ (by omega)
    have hwl:((List.range k).map (winF (N,A,C,Q,P,S1,S2,S3) c ss)).length=k:=by rw [List.length_map,List.length_range]
    have hms:=range_map_s (winF (N,A,C,Q,P,S1,S2,S3) c ss) k
    have hcb:=chain_bad (j:=k) ha hkl
    have hbw:badW (N,A,C,Q,P,S1,S2,S3) c ss k=decide ((winF (N,A,C,Q,P,S1,S2,S3) c ss k).1 > (winF (N,A,C,Q,P,S1,S2,S3) c ss k).2):=rfl
    have hki:(k:Int)≤(ss.length:Int):=by omega
    generalize hWk:winF (N,A,C,Q,P,S1,S2,S3) c ss k=wk at hms hbw
    obtain ⟨wa,wb⟩:=wk
    dsimp only [x25_0,x25_0d];simp only [↓hcsChR,entAs20,entLr20,entNd20,entWn20,hki,ha,w2,hWk,hwl,Int.toNat_natCast,go_sem,Nat.reduceAdd,Nat.reduceSub,Nat.reduceMul,Nat.reduceLT,Nat.reduceLeDiff,Nat.reduceEqDiff,Nat.reduceBEq,Nat.reduceBNe,List.reduceReplicate,reduceIte,reduceCtorEq,↓reduceIte]
    simp only [hki,ha,w2,hWk,hwl,Int.toNat_natCast,td,reduceCtorEq]
    refine ⟨fun h=>?_,fun h=>⟨by omega,k+1,by omega,⟨by omega,fun i hi=>?_⟩,rfl,hms⟩⟩
    ·rw [hcb (by rw [hbw];exact decide_eq_true h)]
    ·rcases Nat.lt_or_ge i k with q | q
     ·exact hB i q
     ·rw [show i=k by omega,hbw]
      exact decide_eq_false (Int.not_lt.2 h)
   ·obtain rfl:k=ss.length+1:=by omega
    have hkn:¬ ((ss.length+1:Nat):Int)≤(ss.length:Int):=by omega
    dsimp only [x25_0,x25_0d];simp only [↓hcsChR,entAs20,entLr20,entNd20,entWn20,hkn,go_sem,Nat.reduceAdd,Nat.reduceSub,Nat.reduceMul,Nat.reduceLT,Nat.reduceLeDiff,Nat.reduceEqDiff,Nat.reduceBEq,Nat.reduceBNe,List.reduceReplicate,reduceIte,reduceCtorEq,↓reduceIte]
    try simp only [hkn,td,reduceCtorEq]
    refine XW_for 2000 x25_1d [0,1,9,12,16] Nat (fun k=>[(11,.val (.int .i64) (k:Int))])
     (fun k=>[(14,.row 72 (.st (.cons (.int .i64) (.int .i64))) ((List.range k).map fun k=>(legAt (N,A,C,Q,P,S1,S2,S3) c ss k).1))])
     (fun k=>k≤ss.length∧∀ k',k' < k→(legAt (N,A,C,Q,P,S1,S2,S3) c ss k').2=true) (fun k=>ss.length - k) 0 ?_ ?_ ?_
    ·dsimp only [x25_1d];simp only [go_sem,Nat.reduceAdd,Nat.reduceSub,Nat.reduceMul,Nat.reduceLT,Nat.reduceLeDiff,Nat.reduceEqDiff,Nat.reduceBEq,Nat.reduceBNe,List.reduceReplicate,reduceIte,reduceCtorEq,↓reduceIte];try trivial
    ·exact ⟨Nat.zero_le _,fun k hk=>by omega⟩
    ·rintro k ⟨hk,hB'⟩
     by_cases hkl:k < ss.length
     ·have w2:IntKind.i64.wrap ((k:Int)+1)=((k+1:Nat):Int):=i64_in _ (by omega)
      have hki:(k:Int)≤(ss.length:Int):=by omega
      have hki':((k+1:Nat):Int)≤(ss.length:Int):=by omega
      have hwd:((List.range (ss.length+1)).map (winF (N,A,C,Q,P,S1,S2,S3) c ss)).getD k (0,0)=winF (N,A,C,Q,P,S1,S2,S3) c ss k:=by
       rw [List.getD_eq_getElem?_getD,List.getElem?_map,List.getElem?_range (by omega)];rfl
      have hwl:((List.range (ss.length+1)).map (winF (N,A,C,Q,P,S1,S2,S3) c ss)).length=ss.length+1:=by rw [List.length_map,List.length_range]
      have hll:((List.range k).map fun k=>(legAt (N,A,C,Q,P,S1,S2,S3) c ss k).1).length=k:=by rw [List.length_map,List.length_range]
      have hLg:legF (N,A,C,Q,P,S1,S2,S3) (nodeF (N,A,C,Q,P,S1,S2,S3) c ss k) (nodeF (N,A,C,Q,P,S1,S2,S3) c ss (k+1)) (winF (N,A,C,Q,P,S1,S2,S3) c ss k)=legAt (N,A,C,Q,P,S1,S2,S3) c ss k:=rfl
      have hwr:=win_rng ha (k:=k) (by omega)
      have hbk:(winF (N,A,C,Q,P,S1,S2,S3) c ss k).1≤(winF (N,A,C,Q,P,S1,S2,S3) c ss k).2:=by
       have:=hB k (by omega)
       unfold badW at this
       have:=of_decide_eq_false this
       omega
      have hkw:k < ss.length+1:=by omega
      dsimp only [x25_1,x25_1d];simp only [↓hcsChR,entAs20,entLr20,entNd20,entWn20,hkl,hki,hki',w2,hwd,hwl,hll,hLg,hw,ha,hkw,Int.toNat_natCast,go_sem,Nat.reduceAdd,Nat.reduceSub,Nat.reduceMul,Nat.reduceLT,Nat.reduceLeDiff,Nat.reduceEqDiff,Nat.reduceBEq,Nat.reduceBNe,List.reduceReplicate,reduceIte,reduceCtorEq,↓reduceIte]
      simp only [hkl,hki,hki',w2,hwd,hwl,hll,hLg,hw,ha,hkw,Int.toNat_natCast,td,reduceCtorEq]
      refine ⟨⟨hwr,hbk⟩,fun h=>?_,fun h=>⟨by omega,k+1,by omega,⟨by omega,fun k' hk'=>?_⟩,rfl,range_map_s _ k⟩⟩
      ·have hz:chainF (N,A,C,Q,P,S1,S2,S3) c ss=(([],[],[]),4):=by
        unfold chainF
        rw [if_neg (by rw [ha];simp),if_neg ?_,if_pos (List.any_eq_true.2 ⟨k,List.mem_range.2 hkl,by rw [h];rfl⟩)];· rfl
        intro h'
        obtain ⟨i,hi,hb⟩:=List.any_eq_true.1 h'
        rw [hB i (List.mem_range.1 hi)] at hb
        exact Bool.noConfusion hb
       rw [hz]
      ·rcases Nat.lt_or_ge k' k with q | q
       ·exact hB' k' q
       ·rw [show k' = k by omega];exact h
     ·obtain rfl:k=ss.length:=by omega
      dsimp only [x25_1,x25_1d];simp only [↓hcsChR,entAs20,entLr20,entNd20,entWn20,hkl,go_sem,Nat.reduceAdd,Nat.reduceSub,Nat.reduceMul,Nat.reduceLT,Nat.reduceLeDiff,Nat.reduceEqDiff,Nat.reduceBEq,Nat.reduceBNe,List.reduceReplicate,reduceIte,reduceCtorEq,↓reduceIte]
      simp only [hkl,td,reduceCtorEq]
      have hz:chainF (N,A,C,Q,P,S1,S2,S3) c ss=((winsF (N,A,C,Q,P,S1,S2,S3) c ss,legsF (N,A,C,Q,P,S1,S2,S3) c ss,ridesR (N,A,C,Q,P,S1,S2,S3) ss ss.length),0):=by
       unfold chainF
       rw [if_neg (by rw [ha];simp),if_neg ?_,if_neg ?_]
       ·intro h'
        obtain ⟨i,hi,hb⟩:=List.any_eq_true.1 h'
        rw [hB' i (List.mem_range.1 hi)] at hb
        exact Bool.noConfusion hb
       ·intro h'
        obtain ⟨i,hi,hb⟩:=List.any_eq_true.1 h'
        rw [hB i (List.mem_range.1 hi)] at hb
        exact Bool.noConfusion hb
      refine XW_for 3000 x25_2d [0,1,9,12,14] Nat (fun k=>[(14,.val (.int .i64) (k:Int))])
       (fun k=>[(16,.row 102 (.st (.cons (.int .i64) (.cons (.int .i64) (.int .i64)))) (ridesR (N,A,C,Q,P,S1,S2,S3) ss k))])
       (fun k=>k≤ss.length) (fun k=>ss.length - k) 0 ?_ ?_ ?_
      ·dsimp only [x25_2d];simp only [go_sem,Nat.reduceAdd,Nat.reduceSub,Nat.reduceMul,Nat.reduceLT,Nat.reduceLeDiff,Nat.reduceEqDiff,Nat.reduceBEq,Nat.reduceBNe,List.reduceReplicate,reduceIte,reduceCtorEq,↓reduceIte];try trivial
      ·exact Nat.zero_le _
      ·rintro k hk
       by_cases hkl:k < ss.length
       ·have w2:IntKind.i64.wrap ((k:Int)+1)=((k+1:Nat):Int):=i64_in _ (by omega)
        have hq:=(hss.2 k hkl).1
        have hat:=fun {m:Nat} (hm:m < ss.length)=>hss.at_eq hm
        have hpd:=pick_drop hss hkl
        have hrk:rideR (N,A,C,Q,P,S1,S2,S3) ss k=((k:Int)+1,atF ((ss.getD k dStop).1,false) ss+1,(Q.getD (ss.getD k dStop).1.toNat (0,0,0,0,0,0,0,0,0,0)).2.2.2.2.2.2.1):=rfl
        have hry:=ridesR_yes (N,A,C,Q,P,S1,S2,S3) (ss:=ss) (j:=k)
        have hrn:=ridesR_no (N,A,C,Q,P,S1,S2,S3) (ss:=ss) (j:=k)
        have hrl:=ridesR_le (N,A,C,Q,P,S1,S2,S3) ss k
        have hatk:=hat hkl
        generalize hS:ss.getD k dStop=st at hq hpd hrk hry hrn hatk
        have hS':ss.getD k (0,false)=st:=hS
        obtain ⟨r,p⟩:=st
        dsimp only at hq hpd hrk hry hrn
        cases p with
        | false =>
         replace hrn:=hrn rfl
         dsimp only [x25_2,x25_2d];simp only [↓hcsChR,entAs20,entLr20,entNd20,entWn20,hkl,w2,hS',go_sem,Nat.reduceAdd,Nat.reduceSub,Nat.reduceMul,Nat.reduceLT,Nat.reduceLeDiff,Nat.reduceEqDiff,Nat.reduceBEq,Nat.reduceBNe,List.reduceReplicate,reduceIte,reduceCtorEq,↓reduceIte]
         simp only [hkl,w2,hS',td,reduceCtorEq]
         exact ⟨k+1,by omega,by omega,rfl,hrn⟩
        | true =>
         obtain ⟨d,hd1,hd2,hd3⟩:=hpd rfl
         replace hry:=hry rfl
         have hatd:=hat hd2
         rw [hd3] at hatd
         rw [hatd] at hrk
         obtain ⟨r,rfl⟩:∃ z:Nat,r=z:=⟨r.toNat,by omega⟩
         have hql:r < Q.length:=by omega
         rw [Int.toNat_natCast] at hrk
         dsimp only [x25_2,x25_2d];simp only [↓hcsChR,entAs20,entLr20,entNd20,entWn20,hkl,w2,hS',go_sem,Nat.reduceAdd,Nat.reduceSub,Nat.reduceMul,Nat.reduceLT,Nat.reduceLeDiff,Nat.reduceEqDiff,Nat.reduceBEq,Nat.reduceBNe,List.reduceReplicate,reduceIte,reduceCtorEq,↓reduceIte]
         simp only [hkl,w2,hS',td,reduceCtorEq]
         refine XW_for 4000 x25_3d [0,1,9,12,14] Nat (fun m=>[(15,.val (.int .i64) ((k+1+m:Nat):Int))])
          (fun m=>[(16,.row 102 (.st (.cons (.int .i64) (.cons (.int .i64) (.int .i64)))) (ridesR (N,A,C,Q,P,S1,S2,S3) ss k ++ if d < k+1+m then [rideR (N,A,C,Q,P,S1,S2,S3) ss k] else []))])
          (fun m=>k+1+m≤ss.length) (fun m=>ss.length - m) 0 ?_ ?_ ?_
         ·dsimp only [x25_3d];simp only [go_sem,Nat.reduceAdd,Nat.reduceSub,Nat.reduceMul,Nat.reduceLT,Nat.reduceLeDiff,Nat.reduceEqDiff,Nat.reduceBEq,Nat.reduceBNe,List.reduceReplicate,reduceIte,reduceCtorEq,↓reduceIte];try trivial
          rw [if_neg (by omega),List.append_nil]
         ·show k+1+0≤ss.length;omega
         ·rintro m hm
          by_cases hml:k+1+m < ss.length
          ·have hmi:((k+1+m:Nat):Int) < (ss.length:Int):=by omega
           have w3:IntKind.i64.wrap (((k+1+m:Nat):Int)+1)=((k+1+(m+1):Nat):Int):=(i64_in _ (by omega)).trans (by omega)
           have hatm:=hat hml
           generalize hT:ss.getD (k+1+m) dStop=t at hatm
           have hT':ss.getD (k+1+m) (0,false)=t:=hT
           obtain ⟨t1,t2⟩:=t
           dsimp only [x25_3,x25_3d];simp only [↓hcsChR,entAs20,entLr20,entNd20,entWn20,hml,hmi,w2,w3,hS',hT',hkl,hql,Int.toNat_natCast,go_sem,Nat.reduceAdd,Nat.reduceSub,Nat.reduceMul,Nat.reduceLT,Nat.reduceLeDiff,Nat.reduceEqDiff,Nat.reduceBEq,Nat.reduceBNe,List.reduceReplicate,reduceIte,reduceCtorEq,↓reduceIte]
           simp only [hml,hmi,w2,w3,hS',hT',hkl,hql,Int.toNat_natCast,td,reduceCtorEq]
           have hk1:t1=(r:Int)→k+1+m=d:=fun h=>by
            subst h
            cases t2 with
            | true=>have:=hatm.symm.trans hatk;omega
            | false=>have:=hatm.symm.trans hatd;omega
           have hk2:k+1+m=d→t1=(r:Int):=fun h=>by
            rw [h,hd3] at hT
            exact (Prod.mk.inj hT).1.symm
           refine ⟨fun h=>?_,fun h=>⟨m+1,by omega,by omega,rfl,?_⟩⟩
           ·have e:=hk1 h
            rw [if_neg (by omega),List.append_nil]
            refine ⟨by omega,m+1,by omega,by omega,rfl,?_⟩
            rw [if_pos (by omega),hrk,show ((k+1:Nat):Int)=(k:Int)+1 by omega,show ((k+1+(m+1):Nat):Int)=(d:Int)+1 by omega]
           ·have e:k+1+m≠d:=fun e=>h (hk2 e)
            by_cases q:d < k+1+m
            ·rw [if_pos q,if_pos (by omega)]
            ·rw [if_neg q,if_neg (by omega)]
          ·have hmi:¬ ((k+1+m:Nat):Int) < (ss.length:Int):=by omega
           dsimp only [x25_3,x25_3d];simp only [↓hcsChR,entAs20,entLr20,entNd20,entWn20,hmi,w2,go_sem,Nat.reduceAdd,Nat.reduceSub,Nat.reduceMul,Nat.reduceLT,Nat.reduceLeDiff,Nat.reduceEqDiff,Nat.reduceBEq,Nat.reduceBNe,List.reduceReplicate,reduceIte,reduceCtorEq,↓reduceIte]
           simp only [hmi,w2,td,reduceCtorEq]
           rw [if_pos (by omega)]
           exact ⟨k+1,by omega,by omega,rfl,hry⟩
       ·obtain rfl:k=ss.length:=by omega
        dsimp only [x25_2,x25_2d];simp only [↓hcsChR,entAs20,entLr20,entNd20,entWn20,hkl,go_sem,Nat.reduceAdd,Nat.reduceSub,Nat.reduceMul,Nat.reduceLT,Nat.reduceLeDiff,Nat.reduceEqDiff,Nat.reduceBEq,Nat.reduceBNe,List.reduceReplicate,reduceIte,reduceCtorEq,↓reduceIte]
        simp only [hkl,hz,td,reduceCtorEq]
        rfl
end T
end Go.Proofs.YtecdcopihghnaaaGreat
end
section
namespace Go.Proofs.YtecdcopihghnaaaGreat
set_option linter.unusedVariables false
set_option linter.unusedSimpArgs false
open Go.RowKit Go.IntWalk
namespace T
def entGd16:Ent:=⟨114,.cons (.st (.cons (.sl (.st (.cons (.int .i64) (.int .i64)))) (.cons (.sl (.st (.cons (.int .i64) (.int .i64)))) (.sl (.st (.cons (.int .i64) (.cons (.int .i64) (.int .i64)))))))) .nil,(.sl (.int .i64)),false,none,fun x=>rightC x.1=true∧∀ r ∈ (x.1:DChain).2.2,lateR x.1 r=false,fun x=>gsF x.1 (x.1:DChain).1.length⟩
def csGd6:List Ent:=[entHg16] theorem hcsGd6 (f:FuncId):findEnt csGd6 f=findEnt [entHg16] f:=rfl
set_option maxHeartbeats 4000000 in
theorem conGd16:Con Tryz.prog entGd16:=by
 refine con_is (C:=csGd6) x114 (by kernel_rfl) (by simp [csGd6,conHg16]) fun x hx hf=>?_
 obtain ⟨⟨(W:List DWin),(L:List DLeg),(R:List DRide)⟩,_⟩:=x
 obtain ⟨hr,hnl⟩:=hx
 have hr:rightC (W,L,R)=true:=hr
 have hnl:∀ r ∈ R,lateR (W,L,R) r=false:=hnl
 have hc:=(rightC_iff.1 hr).1
 dsimp only at hc
 have w4:IntKind.i64.wrap ((W.length:Int) - 1)=(W.length:Int) - 1:=i64_in _ (by omega)
 dsimp only [entGd16,x114];simp only [↓hcsGd6,entHg16,w4,go_sem,Nat.reduceAdd,Nat.reduceSub,Nat.reduceMul,Nat.reduceLT,Nat.reduceLeDiff,Nat.reduceEqDiff,Nat.reduceBEq,Nat.reduceBNe,List.reduceReplicate,reduceIte,reduceCtorEq,↓reduceIte]
 try simp only [w4,td,reduceCtorEq]
 have hgl:∀ p,(gsF (W,L,R) (W.length - p)).length=W.length - p:=fun p=>gsF_len _ _
 have hgb:∀ p,Within 0 (85983232 * (((W.length - p:Nat):Int)+1)) (gsF (W,L,R) (W.length - p)):=fun p=>gs_bd hr _ (Nat.sub_le _ _)
 refine ⟨by show (8:Int) * (W.length:Int)≤_;omega,?_⟩
 refine XW_for 2000 x114_0d [0,1] Nat (fun p=>[(5,.val (.int .i64) ((p:Int) - 1))]) (fun p=>[(7,.row 3 (.int .i64) (aR p (gsF (W,L,R) (W.length - p))))]) (fun p=>p≤W.length) (fun p=>p) W.length ?_ ?_ ?_
 ·dsimp only [x114_0d]
  simp only [go_sem,Nat.reduceAdd,Nat.reduceSub,Nat.reduceMul,Nat.reduceLT,Nat.reduceLeDiff,Nat.reduceEqDiff,Nat.reduceBEq,Nat.reduceBNe,List.reduceReplicate,reduceIte,reduceCtorEq,↓reduceIte]
  rw [Nat.sub_self]
  exact (List.append_nil _).symm
 ·exact Nat.le_refl _
 intro p hp
 have hrest:=hgl p
 have hrb:=hgb p
 generalize hG:gsF (W,L,R) (W.length - p)=rest at hrest hrb
 cases p with
 | succ k =>
  have e9:((k+1:Nat):Int) - 1=(k:Int):=by omega
  have e10:(k:Int) ≥ 0:=by omega
  dsimp only [x114_0,x114_0d]
  simp only [↓hcsGd6,entHg16,e9,e10,aR_set,aR_len,Int.toNat_natCast,go_sem,Nat.reduceAdd,Nat.reduceSub,Nat.reduceMul,Nat.reduceLT,Nat.reduceLeDiff,Nat.reduceEqDiff,Nat.reduceBEq,Nat.reduceBNe,List.reduceReplicate,reduceIte,reduceCtorEq,↓reduceIte]
  try simp only [e9,e10,aR_set,aR_len,Int.toNat_natCast,td,reduceCtorEq]
  refine ⟨⟨by omega,by omega⟩,?_⟩
  have hk:k < W.length:=by omega
  have hstep:=gs_step (W,L,R) (k:=k) hk
  rw [hG] at hstep
  have hfp:∀ i,0≤(R.take i).foldl (rF (W,L,R) k rest) (W.getD k (0,0)).1∧(R.take i).foldl (rF (W,L,R) k rest) (W.getD k (0,0)).1≤85983232 * (((W.length - (k+1):Nat):Int)+1)+85983232:=fun i=>by
   have h2:=right_win hr (k:=k) hk
   dsimp only at h2
   exact fold_bd hr (by omega) hrb (R.take i) (fun r hr=>List.mem_of_mem_take hr) _ h2.1 (by omega)
  refine XW_for 3000 x114_1d [0,1] Nat (fun i=>[(6,.val (.int .i64) (i:Int))]) (fun i=>[(7,.row 3 (.int .i64) (bR k ((R.take i).foldl (rF (W,L,R) k rest) (W.getD k (0,0)).1) rest))]) (fun i=>i≤R.length) (fun i=>R.length - i) 0 ?_ ?_ ?_
  ·dsimp only [x114_1d]
   simp only [go_sem,Nat.reduceAdd,Nat.reduceSub,Nat.reduceMul,Nat.reduceLT,Nat.reduceLeDiff,Nat.reduceEqDiff,Nat.reduceBEq,Nat.reduceBNe,List.reduceReplicate,reduceIte,reduceCtorEq,↓reduceIte]
   exact ⟨rfl,rfl⟩
  ·exact Nat.zero_le _
  intro i hi
  by_cases hi':i < R.length
  ·have w3:IntKind.i64.wrap ((i:Int)+1)=((i+1:Nat):Int):=i64_in _ (by omega)
   have w5:IntKind.i64.wrap ((k:Int)+1)=((k+1:Nat):Int):=i64_in _ (by omega)
   have hrd:=right_ride hr (k:=i) hi'
   have hts:R.take (i+1)=R.take i ++ [R.getD i (0,0,0)]:=by
    rw [List.take_succ_eq_append_getElem hi']
    simp [List.getD,hi']
   have hfi:=hfp i
   have hmem:=getD_mem2 (d:=((0,0,0):DRide)) hi'
   generalize hS:R.getD i (0,0,0)=r at hrd hts hmem
   generalize hA:(R.take i).foldl (rF (W,L,R) k rest) (W.getD k (0,0)).1=acc at hfi
   obtain ⟨a,b,d⟩:=r
   dsimp only at hrd
   obtain ⟨b,rfl⟩:∃ z:Nat,b=z:=⟨b.toNat,by omega⟩
   have hi0:(i:Int) < (R.length:Int):=by omega
   dsimp only [x114_1,x114_1d]
   simp only [↓hcsGd6,entHg16,hi',hi0,hS,hA,w3,w5,Int.toNat_natCast,go_sem,Nat.reduceAdd,Nat.reduceSub,Nat.reduceMul,Nat.reduceLT,Nat.reduceLeDiff,Nat.reduceEqDiff,Nat.reduceBEq,Nat.reduceBNe,List.reduceReplicate,reduceIte,reduceCtorEq,↓reduceIte]
   try simp only [hi',hi0,hS,hA,w3,w5,Int.toNat_natCast,td,reduceCtorEq]
   have hrf:rF (W,L,R) k rest acc (a,(b:Int),d)=if a=k then mF (W,L,R) k rest (a,(b:Int),d) acc (b - k) else acc:=by
    unfold rF
    dsimp only
    rw [Int.toNat_natCast]
   have hmb:a=k→∀ q,q≤b - k→0≤mF (W,L,R) k rest (a,(b:Int),d) acc q∧mF (W,L,R) k rest (a,(b:Int),d) acc q≤85983232 * (((W.length - (k+1):Nat):Int)+1)+85983232:=fun e=>by
    have h1:=mF_bd hr hmem e (by omega) hrb hfi.1 hfi.2
    dsimp only at h1
    rw [Int.toNat_natCast] at h1
    exact h1
   refine XW_for 4000 x114_2d [0,1,3010] Nat (fun q=>[(8,.val (.int .i64) ((k+1+q:Nat):Int))]) (fun q=>[(7,.row 3 (.int .i64) (bR k (if a=k then mF (W,L,R) k rest (a,(b:Int),d) acc q else acc) rest))]) (fun q=>(q≤b - k)∧(a≠k→q=0)) (fun q=>b - k - q) 0 ?_ ?_ ?_
   ·dsimp only [x114_2d]
    simp only [go_sem,Nat.reduceAdd,Nat.reduceSub,Nat.reduceMul,Nat.reduceLT,Nat.reduceLeDiff,Nat.reduceEqDiff,Nat.reduceBEq,Nat.reduceBNe,List.reduceReplicate,reduceIte,reduceCtorEq,↓reduceIte]
    split <;> rfl
   ·exact ⟨Nat.zero_le _,fun _=>rfl⟩
   rintro q ⟨hq,hq0⟩
   by_cases hgo:a=k∧q < b - k
   ·obtain ⟨hak,hq'⟩:=hgo
    subst hak
    have w6:IntKind.i64.wrap (((k+1+q:Nat):Int)+1)=((k+1+(q+1):Nat):Int):=(i64_in _ (by omega)).trans (by omega)
    have hcb:((k+1+q:Nat):Int)≤(b:Int):=by omega
    have hmq:=hmb rfl q (by omega)
    have hrq:=hrb.getD (by omega) (by omega) q
    have hpm:=psF_mono hr (a:=k+1+q) (b:=b) (by omega)
    dsimp only at hpm
    have w7:IntKind.i64.wrap (rest.getD q 0+(psF L b - psF L (k+1+q)))=rest.getD q 0+(psF L b - psF L (k+1+q)):=i64_in _ (by omega)
    have w8:IntKind.i64.wrap (rest.getD q 0+(psF L b - psF L (k+1+q)) - d)=rest.getD q 0+(psF L b - psF L (k+1+q)) - d:=i64_in _ (by omega)
    dsimp only [x114_2,x114_2d]
    simp only [↓hcsGd6,entHg16,hcb,hr,bR_len,bR_at,bR_rest,bR_set,w6,w7,w8,Int.toNat_natCast,go_sem,Nat.reduceAdd,Nat.reduceSub,Nat.reduceMul,Nat.reduceLT,Nat.reduceLeDiff,Nat.reduceEqDiff,Nat.reduceBEq,Nat.reduceBNe,List.reduceReplicate,reduceIte,reduceCtorEq,↓reduceIte]
    try simp only [hcb,hr,bR_len,bR_at,bR_rest,bR_set,w6,w7,w8,Int.toNat_natCast,td,reduceCtorEq]
    refine ⟨⟨by omega,by omega,by omega,by omega,by show (b:Int)≤(L.length:Int);omega,by omega⟩,q+1,by omega,by omega,rfl,?_⟩
    show _=bR k (maxI _ _) rest
    unfold maxI
    rw [Int.toNat_natCast]
   ·have hcb:¬ (a=(k:Int)∧((k+1+q:Nat):Int)≤(b:Int)):=fun z=>hgo ⟨z.1,by omega⟩
    dsimp only [x114_2,x114_2d]
    simp only [↓hcsGd6,entHg16,hcb,w3,go_sem,Nat.reduceAdd,Nat.reduceSub,Nat.reduceMul,Nat.reduceLT,Nat.reduceLeDiff,Nat.reduceEqDiff,Nat.reduceBEq,Nat.reduceBNe,List.reduceReplicate,reduceIte,reduceCtorEq,↓reduceIte]
    try simp only [hcb,w3,td,reduceCtorEq]
    refine fun hbk=>⟨i+1,by omega,hi',rfl,?_⟩
    rw [hts,List.foldl_append,hA]
    show _=bR k (rF (W,L,R) k rest acc (a,(b:Int),d)) rest
    rw [hrf]
    by_cases hak:a=k
    ·rw [if_pos hak,if_pos hak,show q=b - k by have:=hbk hak;omega]
    ·rw [if_neg hak,if_neg hak]
  ·have hi0:¬ (i:Int) < (R.length:Int):=by omega
   dsimp only [x114_1,x114_1d]
   simp only [↓hcsGd6,entHg16,hi',hi0,go_sem,Nat.reduceAdd,Nat.reduceSub,Nat.reduceMul,Nat.reduceLT,Nat.reduceLeDiff,Nat.reduceEqDiff,Nat.reduceBEq,Nat.reduceBNe,List.reduceReplicate,reduceIte,reduceCtorEq,↓reduceIte]
   try simp only [hi',hi0,td,reduceCtorEq]
   refine ⟨k,by omega,by omega,i64_in _ (by omega),?_⟩
   rw [hstep,aR_bR,List.take_of_length_le (by omega)]
   rfl
 | zero =>
  have e10:¬ (((0:Nat):Int) - 1) ≥ 0:=by decide
  dsimp only [x114_0,x114_0d]
  simp only [↓hcsGd6,entHg16,e10,aR_zero,go_sem,Nat.reduceAdd,Nat.reduceSub,Nat.reduceMul,Nat.reduceLT,Nat.reduceLeDiff,Nat.reduceEqDiff,Nat.reduceBEq,Nat.reduceBNe,List.reduceReplicate,reduceIte,reduceCtorEq,↓reduceIte]
  try simp only [e10,aR_zero,td,reduceCtorEq]
  rw [← hG,Nat.sub_zero]
def entGrd16:Ent:=⟨59,.cons (.st (.cons (.sl (.st (.cons (.int .i64) (.int .i64)))) (.cons (.sl (.st (.cons (.int .i64) (.int .i64)))) (.sl (.st (.cons (.int .i64) (.cons (.int .i64) (.int .i64)))))))) .nil,.cons (.sl (.int .i64)) (.cons (.int .i64) .nil),true,none,fun _=>True,fun x=>((guardF x.1).1,(guardF x.1).2,())⟩
def csGr6:List Ent:=[entRR16,entHg16,entGd16,entPl16,entHi16] theorem hcsGr6 (f:FuncId):findEnt csGr6 f=findEnt [entRR16,entHg16,entGd16,entPl16,entHi16] f:=rfl
set_option maxHeartbeats 4000000 in
theorem conGrd16:Con Tryz.prog entGrd16:=by
 refine con_is (C:=csGr6) x59 (by kernel_rfl) (by simp [csGr6,conRR16,conHg16,conGd16,conPl16,conHi16]) fun x hx hf=>?_
 obtain ⟨⟨(W:List DWin),(L:List DLeg),(R:List DRide)⟩,_⟩:=x
 dsimp only [entGrd16,x59];simp only [↓hcsGr6,entRR16,entHg16,entGd16,entPl16,entHi16,go_sem,Nat.reduceAdd,Nat.reduceSub,Nat.reduceMul,Nat.reduceLT,Nat.reduceLeDiff,Nat.reduceEqDiff,Nat.reduceBEq,Nat.reduceBNe,List.reduceReplicate,reduceIte,reduceCtorEq,↓reduceIte];try simp only [td,reduceCtorEq]
 refine ⟨fun h=>by unfold guardF;rw [if_pos h],fun hr=>?_⟩
 have hc:=(rightC_iff.1 hr).1
 dsimp only at hc
 have hps:∀ k,_:=fun k=>psF_bd hr k
 dsimp only at hps
 refine XW_for 1000 x59_0d [0] Nat (fun j=>[(4,.val (.int .i64) (j:Int))]) (fun _=>[]) (fun j=>j≤R.length∧∀ k,k < j→lateR (W,L,R) (R.getD k (0,0,0))=false) (fun j=>R.length - j) 0 ?_ ?_ ?_
 ·dsimp only [x59_0d]
  simp only [go_sem,Nat.reduceAdd,Nat.reduceSub,Nat.reduceMul,Nat.reduceLT,Nat.reduceLeDiff,Nat.reduceEqDiff,Nat.reduceBEq,Nat.reduceBNe,List.reduceReplicate,reduceIte,reduceCtorEq,↓reduceIte]
  try trivial
 ·exact ⟨Nat.zero_le _,fun k hk=>absurd hk (Nat.not_lt_zero _)⟩
 rintro i ⟨hi,hm⟩
 by_cases hi':i < R.length
 ·have w3:IntKind.i64.wrap ((i:Int)+1)=((i+1:Nat):Int):=i64_in _ (by omega)
  have hrd:=right_ride hr (k:=i) hi'
  have hmem:=getD_mem2 (d:=((0,0,0):DRide)) hi'
  generalize hS:R.getD i (0,0,0)=r at hrd hmem
  obtain ⟨a,b,d⟩:=r
  dsimp only at hrd
  obtain ⟨a,rfl⟩:∃ z:Nat,a=z:=⟨a.toNat,by omega⟩
  obtain ⟨b,rfl⟩:∃ z:Nat,b=z:=⟨b.toNat,by omega⟩
  have hi0:(i:Int) < (R.length:Int):=by omega
  have hla:lateR (W,L,R) ((a:Int),(b:Int),d)=decide (d < psF L b - psF L a):=by
   unfold lateR
   dsimp only
   rw [Int.toNat_natCast,Int.toNat_natCast]
  have hp1:(0:Int)≤(a:Int):=by omega
  have hp2:(a:Int)≤(b:Int):=by omega
  have hp3:(b:Int)≤(L.length:Int):=by omega
  dsimp only [x59_0,x59_0d]
  simp only [↓hcsGr6,entRR16,entHg16,entGd16,entPl16,entHi16,hi',hi0,hS,hr,hp1,hp2,hp3,w3,Int.toNat_natCast,go_sem,Nat.reduceAdd,Nat.reduceSub,Nat.reduceMul,Nat.reduceLT,Nat.reduceLeDiff,Nat.reduceEqDiff,Nat.reduceBEq,Nat.reduceBNe,List.reduceReplicate,reduceIte,reduceCtorEq,↓reduceIte]
  try simp only [hi',hi0,hS,hr,hp1,hp2,hp3,w3,Int.toNat_natCast,td,reduceCtorEq]
  refine ⟨fun h=>?_,fun h=>⟨i+1,by omega,⟨hi',fun k hk=>?_⟩,rfl⟩⟩
  ·unfold guardF
   rw [if_neg (by rw [hr];simp),if_pos (late_any.2 ⟨_,hmem,by rw [hla];exact decide_eq_true h⟩)]
  ·by_cases c:k=i
   ·subst c
    rw [hS,hla]
    exact decide_eq_false (by omega)
   ·exact hm k (by omega)
 have hnl:∀ r ∈ R,lateR (W,L,R) r=false:=fun r hrm=>by
  obtain ⟨k,hk,rfl⟩:=List.getElem_of_mem hrm
  have:=hm k (by omega)
  rwa [show R.getD k (0,0,0)=R[k] by simp [List.getD,hk]] at this
 have hi0:¬ (i:Int) < (R.length:Int):=by omega
 have hfit:=gs_fits hr hnl
 obtain ⟨_,hgl,hgw⟩:=fitsG_iff.1 hfit
 dsimp only at hgl hgw
 have hgu:guardF (W,L,R)=if inTime (W,L,R) (playF (gsF (W,L,R) W.length) (highsF L))=false then ([],20) else (gsF (W,L,R) W.length,0):=by
  unfold guardF
  rw [if_neg (by rw [hr];simp),if_neg (fun z=>by obtain ⟨r,h1,h2⟩:=late_any.1 z;rw [hnl r h1] at h2;cases h2)]
 have hpl:(playF (gsF (W,L,R) W.length) (highsF L)).length=W.length:=by rw [playF_len,highs_len];omega
 dsimp only [x59_0,x59_0d]
 simp only [↓hcsGr6,entRR16,entHg16,entGd16,entPl16,entHi16,hi',hi0,hr,go_sem,Nat.reduceAdd,Nat.reduceSub,Nat.reduceMul,Nat.reduceLT,Nat.reduceLeDiff,Nat.reduceEqDiff,Nat.reduceBEq,Nat.reduceBNe,List.reduceReplicate,reduceIte,reduceCtorEq,↓reduceIte]
 try simp only [hi',hi0,hr,td,reduceCtorEq]
 refine ⟨hnl,⟨by omega,⟨by rw [highs_len];omega,hgl,by omega⟩,hgw,highs_within hr⟩,?_⟩
 generalize hP:playF (gsF (W,L,R) W.length) (highsF L)=P at hgu hpl
 refine XW_for 5000 x59_1d [0] Nat (fun i=>[(7,.val (.int .i64) (i:Int))]) (fun _=>[]) (fun i=>i≤P.length∧∀ q,q < i→P.getD q 0≤(W.getD q (0,0)).2) (fun i=>P.length - i) 0 ?_ ?_ ?_
 ·dsimp only [x59_1d]
  simp only [go_sem,Nat.reduceAdd,Nat.reduceSub,Nat.reduceMul,Nat.reduceLT,Nat.reduceLeDiff,Nat.reduceEqDiff,Nat.reduceBEq,Nat.reduceBNe,List.reduceReplicate,reduceIte,reduceCtorEq,↓reduceIte]
  try trivial
 ·exact ⟨Nat.zero_le _,fun q hq=>absurd hq (Nat.not_lt_zero _)⟩
 rintro j ⟨hj,hn⟩
 have w3:j < P.length→IntKind.i64.wrap ((j:Int)+1)=((j+1:Nat):Int):=fun _=>i64_in _ (by omega)
 dsimp only [x59_1,x59_1d]
 simp only [↓hcsGr6,entRR16,entHg16,entGd16,entPl16,entHi16,go_sem,Nat.reduceAdd,Nat.reduceSub,Nat.reduceMul,Nat.reduceLT,Nat.reduceLeDiff,Nat.reduceEqDiff,Nat.reduceBEq,Nat.reduceBNe,List.reduceReplicate,reduceIte,reduceCtorEq,↓reduceIte]
 try simp only [td,reduceCtorEq]
 refine ⟨fun hj'=>⟨⟨hj',by omega⟩,fun h=>?_,fun h=>⟨j+1,by omega,⟨hj',fun q hq=>?_⟩,w3 hj'⟩⟩,fun hj'=>?_⟩
 ·rw [hgu,if_pos]
  rw [← Bool.not_eq_true]
  intro q
  have:=inTime_iff.1 q j hj'
  dsimp only at this
  omega
 ·by_cases c:q=j
  ·subst c;exact h
  ·exact hn q (by omega)
 ·rw [hgu,if_neg]
  rw [inTime_iff.2 fun q hq=>hn q (by omega)]
  simp
end T
end Go.Proofs.YtecdcopihghnaaaGreat
end
section
namespace Go.Proofs.YtecdcopihghnaaaGreat
set_option linter.unusedVariables false
set_option linter.unusedSimpArgs false
open Go.RowKit Go.IntWalk
namespace T
theorem begF_eq (w:DWorld) (c:Int) (ss:List DStop):begF w c ss=if asksF w c ss=false then (noChain,1) else if (fitsF (carLoad (carAt w c)) ss w.2.2.2.1).2≠0 then (noChain,27) else if togF w.2.2.2.2.1 ss w.2.2.2.1=false then (noChain,30) else chainF w c ss:=rfl
def entMkR:Ent:=⟨26,.cons (.st (.cons (.int .i64) (.cons (.sl (.st (.cons (.int .i64) (.cons (.int .i64) (.cons (.sl (.int .i64)) (.sl (.int .i64))))))) (.cons (.sl (.st (.cons (.int .i64) (.cons (.int .i64) (.cons (.int .i64) (.cons (.int .i64) (.cons (.int .i64) (.cons (.int .i64) (.cons (.int .i64) (.cons (.int .i64) (.int .i64))))))))))) (.cons (.sl (.st (.cons (.int .i64) (.cons (.int .i64) (.cons (.int .i64) (.cons (.int .i64) (.cons (.int .i64) (.cons (.int .i64) (.cons (.int .i64) (.cons (.int .i64) (.cons (.int .i64) (.int .i64)))))))))))) (.cons (.sl (.st (.cons (.int .i64) (.cons (.int .i64) .bool)))) (.st (.cons (.int .i64) (.cons (.int .i64) (.int .i64)))))))))) (.cons (.int .i64) (.cons (.sl (.st (.cons (.int .i64) .bool))) .nil)),.cons (.st (.cons (.int .i64) (.cons (.sl (.st (.cons (.int .i64) .bool))) (.cons (.sl (.st (.cons (.int .i64) (.int .i64)))) (.sl (.int .i64)))))) (.cons (.int .i64) .nil),true,none,fun _=>True,fun x=>((makeF x.1 x.2.1 x.2.2.1).1,(makeF x.1 x.2.1 x.2.2.1).2,())⟩
def csMkR:List Ent:=[entAs20,entRFits,entRTog,entChR,entGrd16,entWt20,entCk19] theorem hcsMkR (f:FuncId):findEnt csMkR f=findEnt [entAs20,entRFits,entRTog,entChR,entGrd16,entWt20,entCk19] f:=rfl
set_option maxHeartbeats 1000000 in
theorem conMkR:Con Tryz.prog entMkR:=by
 refine con_is (C:=csMkR) x26 (by kernel_rfl) (by simp [csMkR,conAs20,conRFits,conRTog,conChR,conGrd16,conWt20,conCk19]) fun x hx hf=>?_
 obtain ⟨⟨(N:Int),(A:List DArc),(C:List DCar),(Q:List DReq),(P:List DPair),(S1:Int),(S2:Int),(S3:Int)⟩,(c:Int),(ss:List DStop),_⟩:=x
 have hz:=makeF_eq (N,A,C,Q,P,S1,S2,S3) c ss
 have hb:=begF_eq (N,A,C,Q,P,S1,S2,S3) c ss
 cases ha:asksF (N,A,C,Q,P,S1,S2,S3) c ss with
 | false =>
  rw [if_pos ha] at hb
  rw [hb] at hz
  dsimp only at hz
  rw [if_pos (by decide)] at hz
  dsimp only [entMkR,x26];simp only [↓hcsMkR,entAs20,entRFits,entRTog,entChR,entGrd16,entWt20,entCk19,undef,ha,hz,go_sem,Nat.reduceAdd,Nat.reduceSub,Nat.reduceMul,Nat.reduceLT,Nat.reduceLeDiff,Nat.reduceEqDiff,Nat.reduceBEq,Nat.reduceBNe,List.reduceReplicate,reduceIte,reduceCtorEq,↓reduceIte]
  try simp only [ha,hz,td,reduceCtorEq]
  all_goals rfl
 | true =>
  rw [if_neg (by rw [ha];simp)] at hb
  obtain ⟨hw,hc,hss⟩:=asks_iff.1 ha
  dsimp only at hc hss
  have hL80:ss.length≤80:=hss.1.1
  obtain ⟨c,rfl⟩:∃ z:Nat,c=z:=⟨c.toNat,by omega⟩
  have hcl:c < C.length:=by omega
  have hca:carAt (N,A,C,Q,P,S1,S2,S3) (c:Int)=C.getD c (0,0,0,0,0,0,0,0,0):=rfl
  rw [hca] at hb
  dsimp only at hb
  have h16:((0:Nat)+ss.length) * 16≤140737488355328:=by omega
  generalize hfe:fitsF (carLoad (C.getD c (0,0,0,0,0,0,0,0,0))) ss Q=fe at hb
  obtain ⟨f1,f2⟩:=fe
  dsimp only at hb
  by_cases hf2:f2=0
  ·subst hf2
   rw [if_neg (by simp)] at hb
   cases ht:togF P ss Q with
   | false =>
    rw [if_pos ht] at hb
    rw [hb] at hz
    dsimp only at hz
    rw [if_pos (by decide)] at hz
    dsimp only [entMkR,x26];simp only [↓hcsMkR,entAs20,entRFits,entRTog,entChR,entGrd16,entWt20,entCk19,undef,ha,hcl,hfe,ht,hz,Int.toNat_natCast,go_sem,Nat.reduceAdd,Nat.reduceSub,Nat.reduceMul,Nat.reduceLT,Nat.reduceLeDiff,Nat.reduceEqDiff,Nat.reduceBEq,Nat.reduceBNe,List.reduceReplicate,reduceIte,reduceCtorEq,↓reduceIte]
    try simp only [ha,hcl,hfe,ht,hz,Int.toNat_natCast,td,reduceCtorEq]
    all_goals rfl
   | true =>
    rw [if_neg (by rw [ht];simp)] at hb
    generalize hch:chainF (N,A,C,Q,P,S1,S2,S3) (c:Int) ss=be at hb
    rw [hb] at hz
    obtain ⟨⟨W,L,R⟩,e⟩:=be
    dsimp only at hz
    by_cases he:e=0
    ·subst he
     rw [if_neg (by simp)] at hz
     generalize hg:guardF (W,L,R)=gu at hz
     obtain ⟨gd,e⟩:=gu
     dsimp only at hz
     by_cases he:e=0
     ·subst he
      have hfit:fitsG (W,L,R) gd=true:=by have:=guard_fits (c:=(W,L,R)) (by rw [hg]);rwa [hg] at this
      rw [if_neg (by simp)] at hz
      have hrs:restsF (N,A,C,Q,P,S1,S2,S3) (W,L,R) gd=decide ((checkK (S1,S2,S3) L (waitsF (W,L,R) gd)).2=0):=rfl
      rw [hrs] at hz
      generalize hck:checkK (S1,S2,S3) L (waitsF (W,L,R) gd)=ck at hz
      obtain ⟨k1,k2⟩:=ck
      dsimp only at hz
      by_cases hk:k2=0
      ·subst hk
       rw [if_neg (by simp)] at hz
       dsimp only [entMkR,x26];simp only [↓hcsMkR,entAs20,entRFits,entRTog,entChR,entGrd16,entWt20,entCk19,undef,ha,hcl,hfe,ht,hch,hg,hfit,hck,h16,hz,Int.toNat_natCast,go_sem,Nat.reduceAdd,Nat.reduceSub,Nat.reduceMul,Nat.reduceLT,Nat.reduceLeDiff,Nat.reduceEqDiff,Nat.reduceBEq,Nat.reduceBNe,List.reduceReplicate,reduceIte,reduceCtorEq,↓reduceIte]
       try simp only [ha,hcl,hfe,ht,hch,hg,hfit,hck,h16,hz,Int.toNat_natCast,td,reduceCtorEq]
       all_goals rfl
      ·rw [if_pos (decide_eq_false hk)] at hz
       dsimp only [entMkR,x26];simp only [↓hcsMkR,entAs20,entRFits,entRTog,entChR,entGrd16,entWt20,entCk19,undef,ha,hcl,hfe,ht,hch,hg,hfit,hck,hk,hz,Int.toNat_natCast,go_sem,Nat.reduceAdd,Nat.reduceSub,Nat.reduceMul,Nat.reduceLT,Nat.reduceLeDiff,Nat.reduceEqDiff,Nat.reduceBEq,Nat.reduceBNe,List.reduceReplicate,reduceIte,reduceCtorEq,↓reduceIte]
       try simp only [ha,hcl,hfe,ht,hch,hg,hfit,hck,hk,hz,Int.toNat_natCast,td,reduceCtorEq]
       all_goals rfl
     ·rw [if_pos he] at hz
      dsimp only [entMkR,x26];simp only [↓hcsMkR,entAs20,entRFits,entRTog,entChR,entGrd16,entWt20,entCk19,undef,ha,hcl,hfe,ht,hch,hg,he,hz,Int.toNat_natCast,go_sem,Nat.reduceAdd,Nat.reduceSub,Nat.reduceMul,Nat.reduceLT,Nat.reduceLeDiff,Nat.reduceEqDiff,Nat.reduceBEq,Nat.reduceBNe,List.reduceReplicate,reduceIte,reduceCtorEq,↓reduceIte]
      try simp only [ha,hcl,hfe,ht,hch,hg,he,hz,Int.toNat_natCast,td,reduceCtorEq]
      all_goals rfl
    ·rw [if_pos he] at hz
     dsimp only [entMkR,x26];simp only [↓hcsMkR,entAs20,entRFits,entRTog,entChR,entGrd16,entWt20,entCk19,undef,ha,hcl,hfe,ht,hch,he,hz,Int.toNat_natCast,go_sem,Nat.reduceAdd,Nat.reduceSub,Nat.reduceMul,Nat.reduceLT,Nat.reduceLeDiff,Nat.reduceEqDiff,Nat.reduceBEq,Nat.reduceBNe,List.reduceReplicate,reduceIte,reduceCtorEq,↓reduceIte]
     try simp only [ha,hcl,hfe,ht,hch,he,hz,Int.toNat_natCast,td,reduceCtorEq]
     all_goals rfl
  ·rw [if_pos hf2] at hb
   rw [hb] at hz
   dsimp only at hz
   rw [if_pos (by decide)] at hz
   dsimp only [entMkR,x26];simp only [↓hcsMkR,entAs20,entRFits,entRTog,entChR,entGrd16,entWt20,entCk19,undef,ha,hcl,hfe,hf2,hz,Int.toNat_natCast,go_sem,Nat.reduceAdd,Nat.reduceSub,Nat.reduceMul,Nat.reduceLT,Nat.reduceLeDiff,Nat.reduceEqDiff,Nat.reduceBEq,Nat.reduceBNe,List.reduceReplicate,reduceIte,reduceCtorEq,↓reduceIte]
   try simp only [ha,hcl,hfe,hf2,hz,Int.toNat_natCast,td,reduceCtorEq]
   all_goals rfl
end T
end Go.Proofs.YtecdcopihghnaaaGreat
end
section
namespace Go.Proofs.YtecdcopihghnaaaGreat
set_option linter.unusedVariables false
set_option linter.unusedSimpArgs false
open Go.RowKit Go.IntWalk
namespace T
def entCkR:Ent:=⟨32,.cons (.st (.cons (.int .i64) (.cons (.sl (.st (.cons (.int .i64) (.cons (.int .i64) (.cons (.sl (.int .i64)) (.sl (.int .i64))))))) (.cons (.sl (.st (.cons (.int .i64) (.cons (.int .i64) (.cons (.int .i64) (.cons (.int .i64) (.cons (.int .i64) (.cons (.int .i64) (.cons (.int .i64) (.cons (.int .i64) (.int .i64))))))))))) (.cons (.sl (.st (.cons (.int .i64) (.cons (.int .i64) (.cons (.int .i64) (.cons (.int .i64) (.cons (.int .i64) (.cons (.int .i64) (.cons (.int .i64) (.cons (.int .i64) (.cons (.int .i64) (.int .i64)))))))))))) (.cons (.sl (.st (.cons (.int .i64) (.cons (.int .i64) .bool)))) (.st (.cons (.int .i64) (.cons (.int .i64) (.int .i64)))))))))) (.cons (.st (.cons (.int .i64) (.cons (.sl (.st (.cons (.int .i64) .bool))) (.cons (.sl (.st (.cons (.int .i64) (.int .i64)))) (.sl (.int .i64)))))) .nil),(.int .i64),false,none,fun _=>True,fun x=>checkP x.1 x.2.1⟩
def csCkR:List Ent:=[entAs20,entRFits,entRTog,entChR,entSmLg,entRR16,entTi20,entKs20,entWt20,entCk19] theorem hcsCkR (f:FuncId):findEnt csCkR f=findEnt [entAs20,entRFits,entRTog,entChR,entSmLg,entRR16,entTi20,entKs20,entWt20,entCk19] f:=rfl
set_option maxHeartbeats 1000000 in
theorem conCkR:Con Tryz.prog entCkR:=by
 refine con_is (C:=csCkR) x32 (by kernel_rfl) (by simp [csCkR,conAs20,conRFits,conRTog,conChR,conSmLg,conRR16,conTi20,conKs20,conWt20,conCk19]) fun x hx hf=>?_
 obtain ⟨⟨(N:Int),(A:List DArc),(C:List DCar),(Q:List DReq),(P:List DPair),(S1:Int),(S2:Int),(S3:Int)⟩,⟨(c:Int),(ss:List DStop),(Lg:List DLeg),(Lv:List Int)⟩,_⟩:=x
 have hz:=checkP_eq (N,A,C,Q,P,S1,S2,S3) (c,ss,Lg,Lv)
 have hb:=begF_eq (N,A,C,Q,P,S1,S2,S3) c ss
 dsimp only at hz
 have hLvl:Lv.length≤9223372036854775807:=hf.2.1.2.2.2.1
 cases ha:asksF (N,A,C,Q,P,S1,S2,S3) c ss with
 | false =>
  rw [if_pos ha] at hb
  rw [hb] at hz
  dsimp only at hz
  rw [if_pos (by decide)] at hz
  dsimp only [entCkR,x32];simp only [↓hcsCkR,entAs20,entRFits,entRTog,entChR,entSmLg,entRR16,entTi20,entKs20,entWt20,entCk19,undef,ha,hz,go_sem,Nat.reduceAdd,Nat.reduceSub,Nat.reduceMul,Nat.reduceLT,Nat.reduceLeDiff,Nat.reduceEqDiff,Nat.reduceBEq,Nat.reduceBNe,List.reduceReplicate,reduceIte,reduceCtorEq,↓reduceIte]
  try simp only [ha,hz,td,reduceCtorEq]
  all_goals rfl
 | true =>
  rw [if_neg (by rw [ha];simp)] at hb
  obtain ⟨hw,hc,hss⟩:=asks_iff.1 ha
  dsimp only at hc hss
  obtain ⟨c,rfl⟩:∃ z:Nat,c=z:=⟨c.toNat,by omega⟩
  have hcl:c < C.length:=by omega
  have hca:carAt (N,A,C,Q,P,S1,S2,S3) (c:Int)=C.getD c (0,0,0,0,0,0,0,0,0):=rfl
  rw [hca] at hb
  dsimp only at hb
  generalize hfe:fitsF (carLoad (C.getD c (0,0,0,0,0,0,0,0,0))) ss Q=fe at hb
  obtain ⟨f1,f2⟩:=fe
  dsimp only at hb
  by_cases hf2:f2=0
  ·subst hf2
   rw [if_neg (by simp)] at hb
   cases ht:togF P ss Q with
   | false =>
    rw [if_pos ht] at hb
    rw [hb] at hz
    dsimp only at hz
    rw [if_pos (by decide)] at hz
    dsimp only [entCkR,x32];simp only [↓hcsCkR,entAs20,entRFits,entRTog,entChR,entSmLg,entRR16,entTi20,entKs20,entWt20,entCk19,undef,ha,hcl,hfe,ht,hz,Int.toNat_natCast,go_sem,Nat.reduceAdd,Nat.reduceSub,Nat.reduceMul,Nat.reduceLT,Nat.reduceLeDiff,Nat.reduceEqDiff,Nat.reduceBEq,Nat.reduceBNe,List.reduceReplicate,reduceIte,reduceCtorEq,↓reduceIte]
    try simp only [ha,hcl,hfe,ht,hz,Int.toNat_natCast,td,reduceCtorEq]
    all_goals rfl
   | true =>
    rw [if_neg (by rw [ht];simp)] at hb
    generalize hch:chainF (N,A,C,Q,P,S1,S2,S3) (c:Int) ss=be at hb
    rw [hb] at hz
    obtain ⟨⟨W,L,R⟩,e⟩:=be
    dsimp only at hz
    by_cases he:e=0
    ·subst he
     rw [if_neg (by simp)] at hz
     have hok:okC (N,A,C,Q,P,S1,S2,S3) (c,ss,Lg,Lv) (W,L,R)=(decide (Lg=L) && (decide (Lv.length=W.length) && (allIn 1048576 Lv && rightC (W,L,R)))):=rfl
     by_cases hq:Lg=L∧Lv.length=W.length∧rightC (W,L,R)=true
     ·obtain ⟨o1,o2,o4⟩:=hq
      subst o1
      have o2i:(Lv.length:Int)=(W.length:Int):=by omega
      rw [decide_eq_true rfl,decide_eq_true o2,o4,Bool.true_and,Bool.true_and,Bool.and_true] at hok
      dsimp only [entCkR,x32];simp only [↓hcsCkR,entAs20,entRFits,entRTog,entChR,entSmLg,entRR16,entTi20,entKs20,entWt20,entCk19,undef,ha,hcl,hfe,ht,hch,o2,o2i,o4,Int.toNat_natCast,go_sem,Nat.reduceAdd,Nat.reduceSub,Nat.reduceMul,Nat.reduceLT,Nat.reduceLeDiff,Nat.reduceEqDiff,Nat.reduceBEq,Nat.reduceBNe,List.reduceReplicate,reduceIte,reduceCtorEq,↓reduceIte]
      try simp only [ha,hcl,hfe,ht,hch,o2,o2i,o4,Int.toNat_natCast,td,reduceCtorEq]
      have hfitA:Within 0 1048576 Lv→fitsG (W,Lg,R) Lv=true:=fun h=>fitsG_iff.2 ⟨o4,o2,fun x hx=>by have:=h x hx;omega⟩
      refine XW_for 1000 x32_0d [0,1,45] Nat (fun j=>[(8,.val (.int .i64) (j:Int))]) (fun _=>[]) (fun j=>j≤Lv.length∧∀ i,i < j→0≤Lv.getD i 0∧Lv.getD i 0≤1048576) (fun j=>Lv.length - j) 0 ?_ ?_ ?_
      ·dsimp only [x32_0d];simp only [go_sem,Nat.reduceAdd,Nat.reduceSub,Nat.reduceMul,Nat.reduceLT,Nat.reduceLeDiff,Nat.reduceEqDiff,Nat.reduceBEq,Nat.reduceBNe,List.reduceReplicate,reduceIte,reduceCtorEq,↓reduceIte];try trivial
      ·exact ⟨Nat.zero_le _,fun i hi=>by omega⟩
      rintro j ⟨hj,hn⟩
      by_cases hjl:j < Lv.length
      ·have w2:IntKind.i64.wrap ((j:Int)+1)=((j+1:Nat):Int):=i64_in _ (by omega)
       have hjw:j < W.length:=by omega
       cases ht3:i3 (Lv.getD j 0) 0 1048576 with
       | false =>
        have hal:allIn 1048576 Lv=false:=by
         rw [← Bool.not_eq_true]
         intro h
         have:=allIn_within.1 h _ (getD_mem2 (d:=0) hjl)
         generalize Lv.getD j 0=z at this ht3
         unfold i3 at ht3
         simp at ht3
         omega
        rw [if_pos (hok.trans hal)] at hz
        dsimp only [x32_0,x32_0d];simp only [↓hcsCkR,entAs20,entRFits,entRTog,entChR,entSmLg,entRR16,entTi20,entKs20,entWt20,entCk19,hjl,o2,hjw,w2,ht3,hz,go_sem,Nat.reduceAdd,Nat.reduceSub,Nat.reduceMul,Nat.reduceLT,Nat.reduceLeDiff,Nat.reduceEqDiff,Nat.reduceBEq,Nat.reduceBNe,List.reduceReplicate,reduceIte,reduceCtorEq,↓reduceIte]
        try simp only [hjl,o2,hjw,w2,ht3,hz,td,reduceCtorEq]
       | true =>
        dsimp only [x32_0,x32_0d];simp only [↓hcsCkR,entAs20,entRFits,entRTog,entChR,entSmLg,entRR16,entTi20,entKs20,entWt20,entCk19,hjl,o2,hjw,w2,ht3,go_sem,Nat.reduceAdd,Nat.reduceSub,Nat.reduceMul,Nat.reduceLT,Nat.reduceLeDiff,Nat.reduceEqDiff,Nat.reduceBEq,Nat.reduceBNe,List.reduceReplicate,reduceIte,reduceCtorEq,↓reduceIte]
        try simp only [hjl,o2,hjw,w2,ht3,td,reduceCtorEq]
        refine ⟨j+1,by omega,⟨by omega,fun i hi=>?_⟩,rfl⟩
        rcases Nat.lt_or_ge i j with q | q
        ·exact hn i q
        ·rw [show i=j by omega]
         generalize Lv.getD j 0=z at ht3 ⊢
         unfold i3 at ht3
         simp at ht3
         omega
      ·have hwi:Within 0 1048576 Lv:=fun x hx=>by
        obtain ⟨i,hi,rfl⟩:=List.getElem_of_mem hx
        have:=hn i (by omega)
        rwa [show Lv.getD i 0=Lv[i] by simp [List.getD,hi]] at this
       have hfit:=hfitA hwi
       have hal:=hok.trans (allIn_within.2 hwi)
       have hjw:¬ j < W.length:=by omega
       rw [if_neg (by rw [hal];simp)] at hz
       have hrs:restsF (N,A,C,Q,P,S1,S2,S3) (W,Lg,R) Lv=decide ((checkK (S1,S2,S3) Lg (waitsF (W,Lg,R) Lv)).2=0):=rfl
       rw [hrs] at hz
       cases hk:keeps20 (W,Lg,R) Lv with
       | false =>
        rw [if_pos hk] at hz
        dsimp only [x32_0,x32_0d];simp only [↓hcsCkR,entAs20,entRFits,entRTog,entChR,entSmLg,entRR16,entTi20,entKs20,entWt20,entCk19,hjl,o2,hjw,hk,o4,hz,go_sem,Nat.reduceAdd,Nat.reduceSub,Nat.reduceMul,Nat.reduceLT,Nat.reduceLeDiff,Nat.reduceEqDiff,Nat.reduceBEq,Nat.reduceBNe,List.reduceReplicate,reduceIte,reduceCtorEq,↓reduceIte]
        try simp only [hjl,o2,hjw,hk,o4,hz,td,reduceCtorEq]
       | true =>
        rw [if_neg (by rw [hk];simp)] at hz
        have hdd:∀ k2:Int,(if decide (k2=0)=false then (29:Int) else 0)=if ¬ k2=0 then 29 else 0:=fun k2=>by by_cases q:k2=0 <;> simp [q]
        generalize hck:checkK (S1,S2,S3) Lg (waitsF (W,Lg,R) Lv)=ck at hz
        obtain ⟨k1,k2⟩:=ck
        dsimp only at hz
        rw [hdd] at hz
        dsimp only [x32_0,x32_0d];simp only [↓hcsCkR,entAs20,entRFits,entRTog,entChR,entSmLg,entRR16,entTi20,entKs20,entWt20,entCk19,hjl,o2,hjw,hk,o4,hck,hfit,hz,go_sem,Nat.reduceAdd,Nat.reduceSub,Nat.reduceMul,Nat.reduceLT,Nat.reduceLeDiff,Nat.reduceEqDiff,Nat.reduceBEq,Nat.reduceBNe,List.reduceReplicate,reduceIte,reduceCtorEq,↓reduceIte]
        try simp only [hjl,o2,hjw,hk,o4,hck,hfit,hz,td,reduceCtorEq]
        refine ⟨fun h=>?_,fun h=>?_⟩
        ·rw [if_pos h]
        ·rw [if_neg (fun q=>q h)]
     ·have hok2:okC (N,A,C,Q,P,S1,S2,S3) (c,ss,Lg,Lv) (W,L,R)=false:=by
       rw [← Bool.not_eq_true]
       intro h
       rw [hok] at h
       simp only [Bool.and_eq_true,decide_eq_true_eq] at h
       exact hq ⟨h.1,h.2.1,h.2.2.2⟩
      rw [if_pos hok2] at hz
      have hn:(Lv.length:Int)=(W.length:Int)→Lv.length=W.length:=fun h=>by omega
      dsimp only [entCkR,x32];simp only [↓hcsCkR,entAs20,entRFits,entRTog,entChR,entSmLg,entRR16,entTi20,entKs20,entWt20,entCk19,undef,ha,hcl,hfe,ht,hch,hz,Int.toNat_natCast,go_sem,Nat.reduceAdd,Nat.reduceSub,Nat.reduceMul,Nat.reduceLT,Nat.reduceLeDiff,Nat.reduceEqDiff,Nat.reduceBEq,Nat.reduceBNe,List.reduceReplicate,reduceIte,reduceCtorEq,↓reduceIte]
      try simp only [ha,hcl,hfe,ht,hch,hz,Int.toNat_natCast,td,reduceCtorEq]
      exact fun h=>absurd ⟨h.1.1,h.1.2,h.2⟩ hq
    ·rw [if_pos he] at hz
     dsimp only [entCkR,x32];simp only [↓hcsCkR,entAs20,entRFits,entRTog,entChR,entSmLg,entRR16,entTi20,entKs20,entWt20,entCk19,undef,ha,hcl,hfe,ht,hch,he,hz,Int.toNat_natCast,go_sem,Nat.reduceAdd,Nat.reduceSub,Nat.reduceMul,Nat.reduceLT,Nat.reduceLeDiff,Nat.reduceEqDiff,Nat.reduceBEq,Nat.reduceBNe,List.reduceReplicate,reduceIte,reduceCtorEq,↓reduceIte]
     try simp only [ha,hcl,hfe,ht,hch,he,hz,Int.toNat_natCast,td,reduceCtorEq]
     all_goals rfl
  ·rw [if_pos hf2] at hb
   rw [hb] at hz
   dsimp only at hz
   rw [if_pos (by decide)] at hz
   dsimp only [entCkR,x32];simp only [↓hcsCkR,entAs20,entRFits,entRTog,entChR,entSmLg,entRR16,entTi20,entKs20,entWt20,entCk19,undef,ha,hcl,hfe,hf2,hz,Int.toNat_natCast,go_sem,Nat.reduceAdd,Nat.reduceSub,Nat.reduceMul,Nat.reduceLT,Nat.reduceLeDiff,Nat.reduceEqDiff,Nat.reduceBEq,Nat.reduceBNe,List.reduceReplicate,reduceIte,reduceCtorEq,↓reduceIte]
   try simp only [ha,hcl,hfe,hf2,hz,Int.toNat_natCast,td,reduceCtorEq]
   all_goals rfl
end T
end Go.Proofs.YtecdcopihghnaaaGreat
end
section
namespace Go.Proofs.YtecdcopihghnaaaGreat
set_option linter.unusedVariables false
set_option linter.unusedSimpArgs false
open Go.RowKit Go.IntWalk
namespace T
def entEnR:Ent:=⟨27,.cons (.st (.cons (.int .i64) (.cons (.sl (.st (.cons (.int .i64) (.cons (.int .i64) (.cons (.sl (.int .i64)) (.sl (.int .i64))))))) (.cons (.sl (.st (.cons (.int .i64) (.cons (.int .i64) (.cons (.int .i64) (.cons (.int .i64) (.cons (.int .i64) (.cons (.int .i64) (.cons (.int .i64) (.cons (.int .i64) (.int .i64))))))))))) (.cons (.sl (.st (.cons (.int .i64) (.cons (.int .i64) (.cons (.int .i64) (.cons (.int .i64) (.cons (.int .i64) (.cons (.int .i64) (.cons (.int .i64) (.cons (.int .i64) (.cons (.int .i64) (.int .i64)))))))))))) (.cons (.sl (.st (.cons (.int .i64) (.cons (.int .i64) .bool)))) (.st (.cons (.int .i64) (.cons (.int .i64) (.int .i64)))))))))) (.cons (.st (.cons (.int .i64) (.cons (.sl (.st (.cons (.int .i64) .bool))) (.cons (.sl (.st (.cons (.int .i64) (.int .i64)))) (.sl (.int .i64)))))) .nil),.cons (.int .i64) (.cons (.int .i64) .nil),true,none,fun _=>True,fun x=>((endP x.1 x.2.1).1,(endP x.1 x.2.1).2,())⟩
def csEnR:List Ent:=[entCkR,entChR,entWst16] theorem hcsEnR (f:FuncId):findEnt csEnR f=findEnt [entCkR,entChR,entWst16] f:=rfl
theorem conEnR:Con Tryz.prog entEnR:=by
 refine con_is (C:=csEnR) x27 (by kernel_rfl) (by simp [csEnR,conCkR,conChR,conWst16]) fun x hx hf=>?_
 obtain ⟨⟨(N:Int),(A:List DArc),(C:List DCar),(Q:List DReq),(P:List DPair),(S1:Int),(S2:Int),(S3:Int)⟩,⟨(c:Int),(ss:List DStop),(Lg:List DLeg),(Lv:List Int)⟩,_⟩:=x
 have hz:=endP_eq (N,A,C,Q,P,S1,S2,S3) (c,ss,Lg,Lv)
 have hck:=fun h=>check_ok (w:=(N,A,C,Q,P,S1,S2,S3)) (p:=(c,ss,Lg,Lv)) h
 dsimp only at hz hck
 generalize he:checkP (N,A,C,Q,P,S1,S2,S3) (c,ss,Lg,Lv)=e at hz hck
 by_cases h0:e=0
 ·subst h0
  rw [if_neg (by simp)] at hz
  obtain ⟨_,_,hok,_,_⟩:=hck rfl
  generalize hch:chainF (N,A,C,Q,P,S1,S2,S3) c ss=ch at hz hok
  obtain ⟨⟨W,L,R⟩,e2⟩:=ch
  have hfit:=(okC_fits hok).2
  dsimp only at hfit hz
  have hw:worstF (W,L,R) Lv=(playF Lv (highsF L),0):=by unfold worstF;rw [if_pos hfit]
  have hpl:(playF Lv (highsF L)).length=L.length+1:=by rw [playF_len,highs_len]
  have hlen:=(rightC_iff.1 (fitsG_iff.1 hfit).1).1
  dsimp only at hlen
  have w1:IntKind.i64.wrap (((L.length+1:Nat):Int) - 1)=(L.length:Int):=(i64_in _ (by omega)).trans (by omega)
  rw [hw] at hz
  unfold lastI at hz
  dsimp only at hz
  rw [hpl,Nat.add_sub_cancel] at hz
  have hl0:L.length < L.length+1:=by omega
  dsimp only [entEnR,x27];simp only [↓hcsEnR,entCkR,entChR,entWst16,undef,he,hch,hw,hpl,w1,hl0,Int.toNat_natCast,go_sem,Nat.reduceAdd,Nat.reduceSub,Nat.reduceMul,Nat.reduceLT,Nat.reduceLeDiff,Nat.reduceEqDiff,Nat.reduceBEq,Nat.reduceBNe,List.reduceReplicate,reduceIte,reduceCtorEq,↓reduceIte]
  try simp only [he,hch,hw,hpl,w1,hl0,Int.toNat_natCast,td,reduceCtorEq]
  rw [hz]
 ·rw [if_pos h0] at hz
  dsimp only [entEnR,x27];simp only [↓hcsEnR,entCkR,entChR,entWst16,undef,he,h0,hz,go_sem,Nat.reduceAdd,Nat.reduceSub,Nat.reduceMul,Nat.reduceLT,Nat.reduceLeDiff,Nat.reduceEqDiff,Nat.reduceBEq,Nat.reduceBNe,List.reduceReplicate,reduceIte,reduceCtorEq,↓reduceIte]
  try simp only [he,h0,hz,td,reduceCtorEq]
def entSmP:Ent:=⟨29,.cons (.st (.cons (.int .i64) (.cons (.sl (.st (.cons (.int .i64) .bool))) (.cons (.sl (.st (.cons (.int .i64) (.int .i64)))) (.sl (.int .i64)))))) (.cons (.st (.cons (.int .i64) (.cons (.sl (.st (.cons (.int .i64) .bool))) (.cons (.sl (.st (.cons (.int .i64) (.int .i64)))) (.sl (.int .i64)))))) .nil),.bool,false,none,fun _=>True,fun x=>decide ((x.1:DPlan)=x.2.1)⟩
def csSmP:List Ent:=[entSmLg,entSmSt,entInt16] theorem hcsSmP (f:FuncId):findEnt csSmP f=findEnt [entSmLg,entSmSt,entInt16] f:=rfl
theorem conSmP:Con Tryz.prog entSmP:=by
 refine con_is (C:=csSmP) x29 (by kernel_rfl) (by simp [csSmP,conSmLg,conSmSt,conInt16]) fun x hx hf=>?_
 obtain ⟨⟨(c:Int),(ss:List DStop),(Lg:List DLeg),(Lv:List Int)⟩,⟨(c':Int),(ss':List DStop),(Lg':List DLeg),(Lv':List Int)⟩,_⟩:=x
 dsimp only [entSmP,x29];simp only [↓hcsSmP,entSmLg,entSmSt,entInt16,undef,go_sem,Nat.reduceAdd,Nat.reduceSub,Nat.reduceMul,Nat.reduceLT,Nat.reduceLeDiff,Nat.reduceEqDiff,Nat.reduceBEq,Nat.reduceBNe,List.reduceReplicate,reduceIte,reduceCtorEq,↓reduceIte]
 try simp only [td,reduceCtorEq]
 rw [Bool.eq_iff_iff]
 simp only [Bool.and_eq_true,beq_iff_eq,decide_eq_true_eq,Prod.mk.injEq,and_assoc]
def entFwP:Ent:=⟨10,.cons (.st (.cons (.int .i64) (.cons (.sl (.st (.cons (.int .i64) .bool))) (.cons (.sl (.st (.cons (.int .i64) (.int .i64)))) (.sl (.int .i64)))))) .nil,.bool,false,none,fun _=>True,fun x=>decide ((x.1:DPlan).2.1.length≤10∧(x.1:DPlan).2.2.1.length≤12∧(x.1:DPlan).2.2.2.length≤12)⟩
def csFwP:List Ent:=[] theorem hcsFwP (f:FuncId):findEnt csFwP f=findEnt [] f:=rfl
theorem conFwP:Con Tryz.prog entFwP:=by
 refine con_is (C:=csFwP) x10 (by kernel_rfl) (by simp [csFwP]) fun x hx hf=>?_
 obtain ⟨⟨(c:Int),(ss:List DStop),(Lg:List DLeg),(Lv:List Int)⟩,_⟩:=x
 dsimp only [entFwP,x10];simp only [↓hcsFwP,undef,go_sem,Nat.reduceAdd,Nat.reduceSub,Nat.reduceMul,Nat.reduceLT,Nat.reduceLeDiff,Nat.reduceEqDiff,Nat.reduceBEq,Nat.reduceBNe,List.reduceReplicate,reduceIte,reduceCtorEq,↓reduceIte]
 try simp only [td,reduceCtorEq]
 rw [Bool.eq_iff_iff]
 simp only [Bool.and_eq_true,decide_eq_true_eq]
 omega
theorem win_eq {W W':List DWin} {L L':List DLeg} {R R':List DRide}:((W,L,R):DChain)=(W',L',R') ↔ W=W'∧L=L'∧R=R':=by simp only [Prod.mk.injEq]
def entSmC:Ent:=⟨28,.cons (.st (.cons (.sl (.st (.cons (.int .i64) (.int .i64)))) (.cons (.sl (.st (.cons (.int .i64) (.int .i64)))) (.sl (.st (.cons (.int .i64) (.cons (.int .i64) (.int .i64)))))))) (.cons (.st (.cons (.sl (.st (.cons (.int .i64) (.int .i64)))) (.cons (.sl (.st (.cons (.int .i64) (.int .i64)))) (.sl (.st (.cons (.int .i64) (.cons (.int .i64) (.int .i64)))))))) .nil),.bool,false,none,fun _=>True,fun x=>decide ((x.1:DChain)=x.2.1)⟩
def csSmC:List Ent:=[entSmLg] theorem hcsSmC (f:FuncId):findEnt csSmC f=findEnt [entSmLg] f:=rfl
theorem conSmC:Con Tryz.prog entSmC:=by
 refine con_is (C:=csSmC) x28 (by kernel_rfl) (by simp [csSmC,conSmLg]) fun x hx hf=>?_
 obtain ⟨⟨(W:List DWin),(L:List DLeg),(R:List DRide)⟩,⟨(W':List DWin),(L':List DLeg),(R':List DRide)⟩,_⟩:=x
 have hWl:W.length≤9223372036854775807:=hf.1.1.1
 have hRl:R.length≤9223372036854775807:=hf.1.2.2.1
 dsimp only [entSmC,x28];simp only [↓hcsSmC,entSmLg,undef,go_sem,Nat.reduceAdd,Nat.reduceSub,Nat.reduceMul,Nat.reduceLT,Nat.reduceLeDiff,Nat.reduceEqDiff,Nat.reduceBEq,Nat.reduceBNe,List.reduceReplicate,reduceIte,reduceCtorEq,↓reduceIte]
 try simp only [td,reduceCtorEq]
 have hne:((W,L,R):DChain)≠(W',L',R')→decide ((W,L,R)=(W',L',R'))=false:=fun h=>decide_eq_false h
 refine ⟨fun h=>(hne fun q=>?_).symm,?_⟩
 ·obtain ⟨q1,q2,q3⟩:=win_eq.1 q
  rcases h with (h | h) | h
  ·exact h (by rw [q1])
  ·exact h q2
  ·exact h (by rw [q3])
 rintro ⟨⟨hW,rfl⟩,hR⟩
 have hRi:(R.length:Int)=(R'.length:Int):=by omega
 refine XW_for 1000 x28_0d [0,1] Nat (fun j=>[(5,.val (.int .i64) (j:Int))]) (fun _=>[]) (fun j=>j≤W.length∧∀ i,i < j→W.getD i (0,0)=W'.getD i (0,0)) (fun j=>W.length - j) 0 ?_ ?_ ?_
 ·dsimp only [x28_0d];simp only [go_sem,Nat.reduceAdd,Nat.reduceSub,Nat.reduceMul,Nat.reduceLT,Nat.reduceLeDiff,Nat.reduceEqDiff,Nat.reduceBEq,Nat.reduceBNe,List.reduceReplicate,reduceIte,reduceCtorEq,↓reduceIte];try trivial
 ·exact ⟨Nat.zero_le _,fun i hi=>by omega⟩
 rintro j ⟨hj,hn⟩
 by_cases hja:j < W.length
 ·have hjb:j < W'.length:=by omega
  have w2:IntKind.i64.wrap ((j:Int)+1)=((j+1:Nat):Int):=i64_in _ (by omega)
  have hne2:W.getD j (0,0)≠W'.getD j (0,0)→decide ((W,L,R)=(W',L,R'))=false:=fun h=>hne fun z=>h (by rw [(win_eq.1 z).1])
  have hnx:W.getD j (0,0)=W'.getD j (0,0)→∀ i,i < j+1→W.getD i (0,0)=W'.getD i (0,0):=fun h i hi=>by
   rcases Nat.lt_or_ge i j with q | q
   ·exact hn i q
   ·rw [show i=j by omega];exact h
  generalize hA:W.getD j (0,0)=u at hne2 hnx
  generalize hB:W'.getD j (0,0)=v at hne2 hnx
  obtain ⟨u1,u2⟩:=u
  obtain ⟨v1,v2⟩:=v
  have huv:((u1,u2)=(v1,v2)) ↔ u1=v1∧u2=v2:=Prod.mk.injEq _ _ _ _ ▸ Iff.rfl
  dsimp only [x28_0,x28_0d];simp only [↓hcsSmC,entSmLg,undef,hja,hjb,w2,hA,hB,go_sem,Nat.reduceAdd,Nat.reduceSub,Nat.reduceMul,Nat.reduceLT,Nat.reduceLeDiff,Nat.reduceEqDiff,Nat.reduceBEq,Nat.reduceBNe,List.reduceReplicate,reduceIte,reduceCtorEq,↓reduceIte]
  try simp only [hja,hjb,w2,hA,hB,td,reduceCtorEq]
  exact ⟨fun h=>(hne2 (fun q=>h (huv.1 q).1 (huv.1 q).2)).symm,fun h=>⟨j+1,by omega,⟨by omega,hnx (huv.2 h)⟩,rfl⟩⟩
 ·have hWe:W=W':=ext_getD (0,0) hW fun i hi=>hn i (by omega)
  subst hWe
  dsimp only [x28_0,x28_0d];simp only [↓hcsSmC,entSmLg,undef,hja,go_sem,Nat.reduceAdd,Nat.reduceSub,Nat.reduceMul,Nat.reduceLT,Nat.reduceLeDiff,Nat.reduceEqDiff,Nat.reduceBEq,Nat.reduceBNe,List.reduceReplicate,reduceIte,reduceCtorEq,↓reduceIte]
  try simp only [hja,td,reduceCtorEq]
  refine XW_for 2000 x28_1d [0,1] Nat (fun j=>[(6,.val (.int .i64) (j:Int))]) (fun _=>[]) (fun j=>j≤R.length∧∀ i,i < j→R.getD i (0,0,0)=R'.getD i (0,0,0)) (fun j=>R.length - j) 0 ?_ ?_ ?_
  ·dsimp only [x28_1d];simp only [go_sem,Nat.reduceAdd,Nat.reduceSub,Nat.reduceMul,Nat.reduceLT,Nat.reduceLeDiff,Nat.reduceEqDiff,Nat.reduceBEq,Nat.reduceBNe,List.reduceReplicate,reduceIte,reduceCtorEq,↓reduceIte];try trivial
  ·exact ⟨Nat.zero_le _,fun i hi=>by omega⟩
  rintro k ⟨hk,hm⟩
  by_cases hka:k < R.length
  ·have hkb:k < R'.length:=by omega
   have w2:IntKind.i64.wrap ((k:Int)+1)=((k+1:Nat):Int):=i64_in _ (by omega)
   have hne2:R.getD k (0,0,0)≠R'.getD k (0,0,0)→decide ((W,L,R)=(W,L,R'))=false:=fun h=>hne fun z=>h (by rw [(win_eq.1 z).2.2])
   have hnx:R.getD k (0,0,0)=R'.getD k (0,0,0)→∀ i,i < k+1→R.getD i (0,0,0)=R'.getD i (0,0,0):=fun h i hi=>by
    rcases Nat.lt_or_ge i k with q | q
    ·exact hm i q
    ·rw [show i=k by omega];exact h
   generalize hA:R.getD k (0,0,0)=u at hne2 hnx
   generalize hB:R'.getD k (0,0,0)=v at hne2 hnx
   obtain ⟨u1,u2,u3⟩:=u
   obtain ⟨v1,v2,v3⟩:=v
   have huv:((u1,u2,u3)=(v1,v2,v3)) ↔ u1=v1∧u2=v2∧u3=v3:=by simp only [Prod.mk.injEq]
   dsimp only [x28_1,x28_1d];simp only [↓hcsSmC,entSmLg,undef,hka,hkb,w2,hA,hB,go_sem,Nat.reduceAdd,Nat.reduceSub,Nat.reduceMul,Nat.reduceLT,Nat.reduceLeDiff,Nat.reduceEqDiff,Nat.reduceBEq,Nat.reduceBNe,List.reduceReplicate,reduceIte,reduceCtorEq,↓reduceIte]
   try simp only [hka,hkb,w2,hA,hB,td,reduceCtorEq]
   exact ⟨fun h=>(hne2 (fun q=>h (huv.1 q).1 (huv.1 q).2.1 (huv.1 q).2.2)).symm,fun h=>⟨k+1,by omega,⟨by omega,hnx (huv.2 h)⟩,rfl⟩⟩
  ·have hRe:R=R':=ext_getD (0,0,0) hR fun i hi=>hm i (by omega)
   have ht:decide ((W,L,R)=(W,L,R'))=true:=decide_eq_true (by rw [hRe])
   dsimp only [x28_1,x28_1d];simp only [↓hcsSmC,entSmLg,undef,hka,ht,go_sem,Nat.reduceAdd,Nat.reduceSub,Nat.reduceMul,Nat.reduceLT,Nat.reduceLeDiff,Nat.reduceEqDiff,Nat.reduceBEq,Nat.reduceBNe,List.reduceReplicate,reduceIte,reduceCtorEq,↓reduceIte]
   try simp only [hka,ht,td,reduceCtorEq]
end T
end Go.Proofs.YtecdcopihghnaaaGreat
end
section
namespace Go.Proofs.YtecdcopihghnaaaGreat
set_option linter.unusedVariables false
set_option linter.unusedSimpArgs false
open Go.RowKit Go.IntWalk
namespace T
def few20 (w:DWorld) (ss:List DStop):Bool :=
 ((List.range w.2.1.length).all fun k=>decide (10 < k∨((w.2.1.getD k (0,0,[],[])).2.2.1.length≤25∧(w.2.1.getD k (0,0,[],[])).2.2.2.length≤25))) &&
 decide ((w.1≤5∨w.1 > 2000)∧w.2.1.length≤10∧w.2.2.1.length≤4∧w.2.2.2.1.length≤8∧w.2.2.2.2.1.length≤5∧ss.length≤10)
def entFew20:Ent:=⟨9,.cons (.st (.cons (.int .i64) (.cons (.sl (.st (.cons (.int .i64) (.cons (.int .i64) (.cons (.sl (.int .i64)) (.sl (.int .i64))))))) (.cons (.sl (.st (.cons (.int .i64) (.cons (.int .i64) (.cons (.int .i64) (.cons (.int .i64) (.cons (.int .i64) (.cons (.int .i64) (.cons (.int .i64) (.cons (.int .i64) (.int .i64))))))))))) (.cons (.sl (.st (.cons (.int .i64) (.cons (.int .i64) (.cons (.int .i64) (.cons (.int .i64) (.cons (.int .i64) (.cons (.int .i64) (.cons (.int .i64) (.cons (.int .i64) (.cons (.int .i64) (.int .i64)))))))))))) (.cons (.sl (.st (.cons (.int .i64) (.cons (.int .i64) .bool)))) (.st (.cons (.int .i64) (.cons (.int .i64) (.int .i64)))))))))) (.cons (.sl (.st (.cons (.int .i64) .bool))) .nil),.bool,false,none,fun _=>True,fun x=>few20 x.1 x.2.1⟩
def csFew20:List Ent:=[] theorem hcsFew20 (f:FuncId):findEnt csFew20 f=findEnt [] f:=rfl
theorem conFew20:Con Tryz.prog entFew20:=by
 refine con_is (C:=csFew20) x9 (by kernel_rfl) (by simp [csFew20]) fun x hx hf=>?_
 obtain ⟨⟨(N:Int),(A:List DArc),(C:List DCar),(Q:List DReq),(P:List DPair),(S1:Int),(S2:Int),(S3:Int)⟩,(ss:List DStop),_⟩:=x
 dsimp only [entFew20,x9];simp only [↓hcsFew20,undef,go_sem,Nat.reduceAdd,Nat.reduceSub,Nat.reduceMul,Nat.reduceLT,Nat.reduceLeDiff,Nat.reduceEqDiff,Nat.reduceBEq,Nat.reduceBNe,List.reduceReplicate,reduceIte,reduceCtorEq,↓reduceIte]
 try simp only [td,reduceCtorEq]
 have hN1:N > 2000 ↔ 2000 < N:=Iff.rfl
 refine XW_for 1000 x9_0d [0] Nat (fun j=>[(5,.val (.int .i64) (j:Int))]) (fun _=>[]) (fun j=>(j≤A.length∧j≤11)∧∀ i,i < j→(A.getD i (0,0,[],[])).2.2.1.length≤25∧(A.getD i (0,0,[],[])).2.2.2.length≤25) (fun j=>A.length - j) 0 ?_ ?_ ?_
 ·dsimp only [x9_0d];simp only [go_sem,Nat.reduceAdd,Nat.reduceSub,Nat.reduceMul,Nat.reduceLT,Nat.reduceLeDiff,Nat.reduceEqDiff,Nat.reduceBEq,Nat.reduceBNe,List.reduceReplicate,reduceIte,reduceCtorEq,↓reduceIte];try trivial
 ·exact ⟨⟨Nat.zero_le _,by omega⟩,fun i hi=>by omega⟩
 rintro j ⟨⟨hj,hj11⟩,hn⟩
 by_cases hja:j < A.length∧j≤10
 ·obtain ⟨hja,hjb⟩:=hja
  have w2:IntKind.i64.wrap ((j:Int)+1)=((j+1:Nat):Int):=i64_in _ (by omega)
  have hjbi:(j:Int)≤10:=by omega
  have hno:¬ ((A.getD j (0,0,[],[])).2.2.1.length≤25∧(A.getD j (0,0,[],[])).2.2.2.length≤25)→few20 (N,A,C,Q,P,S1,S2,S3) ss=false:=fun h=>by
   unfold few20
   rw [Bool.and_eq_false_iff]
   refine .inl (List.all_eq_false.2 ⟨j,List.mem_range.2 hja,?_⟩)
   rw [decide_eq_true_eq]
   rintro (q | q)
   ·omega
   ·exact h q
  dsimp only [x9_0,x9_0d];simp only [↓hcsFew20,undef,hja,hjb,hjbi,w2,go_sem,Nat.reduceAdd,Nat.reduceSub,Nat.reduceMul,Nat.reduceLT,Nat.reduceLeDiff,Nat.reduceEqDiff,Nat.reduceBEq,Nat.reduceBNe,List.reduceReplicate,reduceIte,reduceCtorEq,↓reduceIte]
  try simp only [hja,hjb,hjbi,w2,td,reduceCtorEq]
  refine ⟨fun h=>(hno fun q=>?_).symm,fun h=>⟨j+1,by omega,⟨⟨by omega,by omega⟩,fun i hi=>?_⟩,rfl⟩⟩
  ·rcases h with h | h
   ·exact absurd (Int.ofNat_le.2 q.1) (Int.not_le.2 h)
   ·exact absurd (Int.ofNat_le.2 q.2) (Int.not_le.2 h)
  ·rcases Nat.lt_or_ge i j with q | q
   ·exact hn i q
   ·rw [show i=j by omega]
    exact ⟨Int.ofNat_le.1 h.1,Int.ofNat_le.1 h.2⟩
 ·have hf1:few20 (N,A,C,Q,P,S1,S2,S3) ss=decide ((N≤5∨N > 2000)∧A.length≤10∧C.length≤4∧Q.length≤8∧P.length≤5∧ss.length≤10):=by
   unfold few20
   dsimp only
   rw [List.all_eq_true.2 fun k hk=>?_,Bool.true_and]
   rw [decide_eq_true_eq]
   have:=List.mem_range.1 hk
   by_cases q:k < j
   ·exact .inr (hn k q)
   ·left;omega
  have hcond:¬ ((j:Int) < (A.length:Int)∧(j:Int)≤10):=by omega
  dsimp only [x9_0,x9_0d];simp only [↓hcsFew20,undef,hf1,go_sem,Nat.reduceAdd,Nat.reduceSub,Nat.reduceMul,Nat.reduceLT,Nat.reduceLeDiff,Nat.reduceEqDiff,Nat.reduceBEq,Nat.reduceBNe,List.reduceReplicate,reduceIte,reduceCtorEq,↓reduceIte]
  try simp only [hf1,td,reduceCtorEq]
  refine ⟨fun h=>absurd ⟨h.1,by omega⟩ hja,fun _=>?_⟩
  rw [Bool.eq_iff_iff]
  simp only [Bool.and_eq_true,Bool.or_eq_true,decide_eq_true_eq]
  omega
def arcF20 (f t lo hi:Int):DArc:=(f,t,List.replicate 24 lo,List.replicate 24 hi)
theorem rep_snoc20 (k:Nat) (x:Int):List.replicate k x ++ [x]=List.replicate (k+1) x:=by rw [List.replicate_succ']
def entArc20:Ent:=⟨82,.cons (.int .i64) (.cons (.int .i64) (.cons (.int .i64) (.cons (.int .i64) .nil))),(.st (.cons (.int .i64) (.cons (.int .i64) (.cons (.sl (.int .i64)) (.sl (.int .i64)))))),false,none,fun _=>True,fun x=>arcF20 x.1 x.2.1 x.2.2.1 x.2.2.2.1⟩
def csArc20:List Ent:=[] theorem hcsArc20 (f:FuncId):findEnt csArc20 f=findEnt [] f:=rfl
theorem conArc20:Con Tryz.prog entArc20:=by
 refine con_is (C:=csArc20) x82 (by kernel_rfl) (by simp [csArc20]) fun x _ hf=>?_
 obtain ⟨(f:Int),(t:Int),(lo:Int),(hi:Int),_⟩:=x
 dsimp only [entArc20,x82];simp only [↓hcsArc20,go_sem,Nat.reduceAdd,Nat.reduceSub,Nat.reduceMul,Nat.reduceLT,Nat.reduceLeDiff,Nat.reduceEqDiff,Nat.reduceBEq,Nat.reduceBNe,List.reduceReplicate,reduceIte,reduceCtorEq,↓reduceIte]
 refine XW_first 1000 x82_0d [0,4] Nat (fun k=>[(10,.val (.int .i64) (k:Int))]) (fun k=>[(4,.box 91 [.val (.int .i64) f,.val (.int .i64) t,.own 100,.own 101]),(100,.row 3 (.int .i64) (List.replicate k lo)),(101,.row 3 (.int .i64) (List.replicate k hi))]) (fun k=>1≤k∧k≤24) (fun k=>24 - k) 24 ?_ ?_
 ·dsimp only [x82_0,x82_0d];simp only [↓hcsArc20,go_sem,Nat.reduceAdd,Nat.reduceSub,Nat.reduceMul,Nat.reduceLT,Nat.reduceLeDiff,Nat.reduceEqDiff,Nat.reduceBEq,Nat.reduceBNe,List.reduceReplicate,reduceIte,reduceCtorEq,↓reduceIte]
  try simp only [td,reduceCtorEq]
  exact ⟨fun _=>⟨1,by omega,⟨by omega,by omega⟩,i64_in _ (by omega),rfl,rfl⟩,fun h=>by omega⟩
 ·intro k hk
  dsimp only [x82_0,x82_0d];simp only [↓hcsArc20,go_sem,Nat.reduceAdd,Nat.reduceSub,Nat.reduceMul,Nat.reduceLT,Nat.reduceLeDiff,Nat.reduceEqDiff,Nat.reduceBEq,Nat.reduceBNe,List.reduceReplicate,reduceIte,reduceCtorEq,↓reduceIte]
  try simp only [td,reduceCtorEq]
  refine ⟨fun h=>⟨?_,?_,k+1,by omega,⟨by omega,by omega⟩,i64_in _ (by omega),rep_snoc20 _ _,rep_snoc20 _ _⟩,fun h=>?_⟩
  ·rw [List.length_replicate];omega
  ·rw [List.length_replicate];omega
  ·obtain rfl:k=24:=by omega
   rfl
def entOf20:Ent:=⟨11,.cons (.st (.cons (.int .i64) (.cons (.sl (.st (.cons (.int .i64) (.cons (.int .i64) (.cons (.sl (.int .i64)) (.sl (.int .i64))))))) (.cons (.sl (.st (.cons (.int .i64) (.cons (.int .i64) (.cons (.int .i64) (.cons (.int .i64) (.cons (.int .i64) (.cons (.int .i64) (.cons (.int .i64) (.cons (.int .i64) (.int .i64))))))))))) (.cons (.sl (.st (.cons (.int .i64) (.cons (.int .i64) (.cons (.int .i64) (.cons (.int .i64) (.cons (.int .i64) (.cons (.int .i64) (.cons (.int .i64) (.cons (.int .i64) (.cons (.int .i64) (.int .i64)))))))))))) (.cons (.sl (.st (.cons (.int .i64) (.cons (.int .i64) .bool)))) (.st (.cons (.int .i64) (.cons (.int .i64) (.int .i64)))))))))) .nil,(.st (.cons (.int .i64) (.cons (.sl (.st (.cons (.int .i64) (.cons (.int .i64) (.cons (.sl (.int .i64)) (.sl (.int .i64))))))) (.cons (.sl (.st (.cons (.int .i64) (.cons (.int .i64) (.cons (.int .i64) (.cons (.int .i64) (.cons (.int .i64) (.cons (.int .i64) (.cons (.int .i64) (.cons (.int .i64) (.int .i64))))))))))) (.cons (.sl (.st (.cons (.int .i64) (.cons (.int .i64) (.cons (.int .i64) (.cons (.int .i64) (.cons (.int .i64) (.cons (.int .i64) (.cons (.int .i64) (.cons (.int .i64) (.cons (.int .i64) (.int .i64)))))))))))) (.cons (.sl (.st (.cons (.int .i64) (.cons (.int .i64) .bool)))) (.st (.cons (.int .i64) (.cons (.int .i64) (.int .i64)))))))))),false,none,fun _=>True,fun x=>x.1⟩
def csOf20:List Ent:=[] theorem hcsOf20 (f:FuncId):findEnt csOf20 f=findEnt [] f:=rfl
theorem conOf20:Con Tryz.prog entOf20:=by
 refine con_is (C:=csOf20) x11 (by kernel_rfl) (by simp [csOf20]) fun x hx hf=>?_
 obtain ⟨⟨(N:Int),(A:List DArc),(C:List DCar),(Q:List DReq),(P:List DPair),(S1:Int),(S2:Int),(S3:Int)⟩,_⟩:=x
 dsimp only [entOf20,x11];simp only [↓hcsOf20,undef,go_sem,Nat.reduceAdd,Nat.reduceSub,Nat.reduceMul,Nat.reduceLT,Nat.reduceLeDiff,Nat.reduceEqDiff,Nat.reduceBEq,Nat.reduceBNe,List.reduceReplicate,reduceIte,reduceCtorEq,↓reduceIte]
 try simp only [td,reduceCtorEq]
 all_goals trace_state
end T
end Go.Proofs.YtecdcopihghnaaaGreat
end
section
namespace Go.Proofs.YtecdcopihghnaaaGreat
set_option linter.unusedVariables false
set_option linter.unusedSimpArgs false
open Go.RowKit Go.IntWalk
namespace T
def some20 (ride seats:Int):DWorld:=(2,[arcF20 0 1 10 20,arcF20 1 0 10 10],[(0,0,100,400,4,0,0,0,0)],[(0,0,1,110,120,160,ride,seats,0,0)],[],100,30,300)
def entSome20:Ent:=⟨35,.cons (.int .i64) (.cons (.int .i64) .nil),(.st (.cons (.int .i64) (.cons (.sl (.st (.cons (.int .i64) (.cons (.int .i64) (.cons (.sl (.int .i64)) (.sl (.int .i64))))))) (.cons (.sl (.st (.cons (.int .i64) (.cons (.int .i64) (.cons (.int .i64) (.cons (.int .i64) (.cons (.int .i64) (.cons (.int .i64) (.cons (.int .i64) (.cons (.int .i64) (.int .i64))))))))))) (.cons (.sl (.st (.cons (.int .i64) (.cons (.int .i64) (.cons (.int .i64) (.cons (.int .i64) (.cons (.int .i64) (.cons (.int .i64) (.cons (.int .i64) (.cons (.int .i64) (.cons (.int .i64) (.int .i64)))))))))))) (.cons (.sl (.st (.cons (.int .i64) (.cons (.int .i64) .bool)))) (.st (.cons (.int .i64) (.cons (.int .i64) (.int .i64)))))))))),false,none,fun _=>True,fun x=>some20 x.1 x.2.1⟩
def csSome20:List Ent:=[entArc20] theorem hcsSome20 (f:FuncId):findEnt csSome20 f=findEnt [entArc20] f:=rfl
theorem conSome20:Con Tryz.prog entSome20:=by
 refine con_is (C:=csSome20) x35 (by kernel_rfl) (by simp [csSome20,conArc20]) fun x _ hf=>?_
 obtain ⟨(r:Int),(s:Int),_⟩:=x
 dsimp only [entSome20,x35];simp only [↓hcsSome20,entArc20,undef,go_sem,Nat.reduceAdd,Nat.reduceSub,Nat.reduceMul,Nat.reduceLT,Nat.reduceLeDiff,Nat.reduceEqDiff,Nat.reduceBEq,Nat.reduceBNe,List.reduceReplicate,reduceIte,reduceCtorEq,↓reduceIte]
 try simp only [td,reduceCtorEq]
 all_goals rfl
end T
end Go.Proofs.YtecdcopihghnaaaGreat
end
section
namespace Go.Proofs.YtecdcopihghnaaaGreat
set_option linter.unusedVariables false
set_option linter.unusedSimpArgs false
open Go.RowKit Go.IntWalk
namespace T
theorem tk20 (a b lo hi:Int) (h:Bool) (u:Int):(toArc (arcF20 a b lo hi)).tk h u=if h then hi else lo:=by
 have hl:=hour_lt u
 unfold Arc.tk Arc.row
 cases h
 ·show (List.replicate 24 lo).getD _ 0=lo
  rw [List.getD_eq_getElem?_getD,List.getElem?_replicate,if_pos hl];rfl
 ·show (List.replicate 24 hi).getD _ 0=hi
  rw [List.getD_eq_getElem?_getD,List.getElem?_replicate,if_pos hl];rfl
theorem pass20 {a b lo hi:Int} {h:Bool} {x p:Int} (h1:x≤1048576) (e:p=x+if h then hi else lo):(toArc (arcF20 a b lo hi)).pass h x=p:=by
 refine Arc.pass_eq h1 ⟨⟨x,Int.le_refl _,h1,by rw [tk20];exact e⟩,fun v v1 v2=>?_⟩
 rw [tk20,e]
 omega
theorem ex20 (f0 f1:Int→Int) (h0:f0 110=130) (h1:f1 130=140) (E:Nat→Move) (e0:E 0=(0,1,f0)) (e1:E 1=(1,0,f1)):searchF false E 2 2 0 110=[(110,-1),(130,0)]:=by
 simp [searchF,runF,relaxTo,pickTo,reachF,betterB,timeB,isTime,h0,h1,e0,e1,List.replicate,List.set]
abbrev arcs20:List DArc:=[arcF20 0 1 10 20,arcF20 1 0 10 10]
theorem q20:(toArc (arcF20 0 1 10 20)).passF true 110=130:=by rw [Arc.passF_yes _ (by decide) ⟨by decide,by decide⟩,pass20 (p:=130) (by decide) (by decide)]
theorem q21:(toArc (arcF20 1 0 10 10)).passF true 130=140:=by rw [Arc.passF_yes _ (by decide) ⟨by decide,by decide⟩,pass20 (p:=140) (by decide) (by decide)]
theorem ey20:earlyF 2 arcs20 0 110 true=([(110,-1),(130,0)],0,()):=by
 unfold earlyF
 rw [show rightR 2 arcs20=true by decide,if_neg (by decide),show searchF false (moveE arcs20 true) arcs20.length (2:Int).toNat (0:Int).toNat 110=_ from ex20 _ _ q20 q21 (moveE arcs20 true) rfl rfl]
theorem wy20:wayF [(110,-1),(130,0)] arcs20 1=[0]:=by decide
theorem lw20 (r s:Int):legF (some20 r s) 0 1 (110,120)=((10,20),true):=by
 have e:legWay (some20 r s) 0 1 (110,120)=[0]:=by
  unfold legWay
  show wayF (earlyF 2 arcs20 0 110 true).1 arcs20 1=[0]
  rw [ey20];exact wy20
 unfold legF
 rw [if_neg (by decide),e]
 exact congrArg (fun x=>(x,true)) (by decide +kernel:([0]:List Int).foldl (legStep arcs20 110 120) (0,0)=(10,20))
abbrev st20:List DStop:=[(0,true),(0,false)]
theorem ch20 (r:Int) (hr:r=30∨r=15):chainF (some20 r 1) 0 st20=(([(100,400),(110,120),(110,160)],[(0,0),(10,20)],[(1,2,r)]),0):=by
 have l0:legAt (some20 r 1) 0 st20 0=((0,0),true):=by rcases hr with rfl | rfl <;> rfl
 have l1:legAt (some20 r 1) 0 st20 1=((10,20),true):=by rcases hr with rfl | rfl <;> exact lw20 _ _
 have a1:¬ asksF (some20 r 1) 0 st20=false:=by rcases hr with rfl | rfl <;> decide +kernel
 have a2:¬ (List.range (st20.length+1)).any (badW (some20 r 1) 0 st20)=true:=by rcases hr with rfl | rfl <;> decide +kernel
 have a3:¬ (List.range st20.length).any (fun k=>!(legAt (some20 r 1) 0 st20 k).2)=true:=by
  show ¬ ([0,1]:List Nat).any (fun k=>!(legAt (some20 r 1) 0 st20 k).2)=true
  rw [List.any_cons,List.any_cons,List.any_nil,l0,l1];decide
 have a4:legsF (some20 r 1) 0 st20=[(0,0),(10,20)]:=by
  show [(legAt (some20 r 1) 0 st20 0).1,(legAt (some20 r 1) 0 st20 1).1]=_
  rw [l0,l1]
 have a5:winsF (some20 r 1) 0 st20=[(100,400),(110,120),(110,160)]:=by rcases hr with rfl | rfl <;> decide +kernel
 have a6:ridesR (some20 r 1) st20 st20.length=[(1,2,r)]:=by rcases hr with rfl | rfl <;> decide +kernel
 unfold chainF
 rw [if_neg a1,if_neg a2,if_neg a3,a4,a5,a6]
theorem bg20 (r:Int) (hr:r=30∨r=15):begF (some20 r 1) 0 st20=(([(100,400),(110,120),(110,160)],[(0,0),(10,20)],[(1,2,r)]),0):=by
 unfold begF
 rw [if_neg (by rcases hr with rfl | rfl <;> decide +kernel),if_neg (by rcases hr with rfl | rfl <;> decide +kernel),if_neg (by rcases hr with rfl | rfl <;> decide +kernel),ch20 r hr]
theorem sm1:makeF (some20 30 1) 0 st20=((0,st20,[(0,0),(10,20)],[100,110,110]),0):=by
 rw [makeF_eq,bg20 30 (.inl rfl)];decide +kernel
theorem sm2:(makeF (some20 15 1) 0 st20).2=20:=by
 rw [makeF_eq,bg20 15 (.inr rfl)];decide +kernel
theorem sm3:(makeF (some20 30 5) 0 st20).2=27:=by decide +kernel
theorem sm5:checkP (some20 30 1) (0,st20,[(0,0),(10,20)],[100,110,110])=0:=by
 rw [checkP_eq];dsimp only;rw [bg20 30 (.inl rfl)];decide +kernel
theorem sm4:endP (some20 30 1) (0,st20,[(0,0),(10,20)],[100,110,110])=(130,0):=by
 rw [endP_eq,sm5];dsimp only;rw [ch20 30 (.inl rfl)];decide +kernel
theorem sm6:rightP (some20 30 1)=true:=by decide +kernel
end T
end Go.Proofs.YtecdcopihghnaaaGreat
end
section
namespace Go.Proofs.YtecdcopihghnaaaGreat
set_option linter.unusedVariables false
set_option linter.unusedSimpArgs false
open Go.RowKit Go.IntWalk
namespace T
def entSmall20:Ent:=⟨8,.nil,.bool,false,none,fun _=>True,fun _=>true⟩
def gSo (so:Int→Int→DWorld):Ent:={ entSome20 with F:=fun x=>so x.1 x.2.1 }
def gMk (mk:DWorld→Int→List DStop→DPlan × Int):Ent:={ entMk with F:=fun x=>((mk x.1 x.2.1 x.2.2.1).1,(mk x.1 x.2.1 x.2.2.1).2,()) }
def gEn (en:DWorld→DPlan→Int × Int):Ent:={ entEnd with F:=fun x=>((en x.1 x.2.1).1,(en x.1 x.2.1).2,()) }
def gCk (ck:DWorld→DPlan→Int):Ent:={ entCkP with F:=fun x=>ck x.1 x.2.1 }
def gRp (rp:DWorld→Bool):Ent:={ entPlR with F:=fun x=>rp x.1 }
def csSmall20 (so:Int→Int→DWorld) (mk:DWorld→Int→List DStop→DPlan × Int) (en:DWorld→DPlan→Int × Int) (ck:DWorld→DPlan→Int) (rp:DWorld→Bool):List Ent:=[gSo so,gMk mk,gEn en,gCk ck,gRp rp,entSmP]
theorem hcsSmall20 (so:Int→Int→DWorld) (mk:DWorld→Int→List DStop→DPlan × Int) (en:DWorld→DPlan→Int × Int) (ck:DWorld→DPlan→Int) (rp:DWorld→Bool) (f:FuncId):findEnt (csSmall20 so mk en ck rp) f=findEnt [gSo so,gMk mk,gEn en,gCk ck,gRp rp,entSmP] f:=rfl
theorem small_gen {so:Int→Int→DWorld} {mk:DWorld→Int→List DStop→DPlan × Int} {en:DWorld→DPlan→Int × Int} {ck:DWorld→DPlan→Int} {rp:DWorld→Bool}
  (c1:Con Tryz.prog (gSo so)) (c2:Con Tryz.prog (gMk mk)) (c3:Con Tryz.prog (gEn en)) (c4:Con Tryz.prog (gCk ck)) (c5:Con Tryz.prog (gRp rp))
  (a1:mk (so 30 1) 0 [(0,true),(0,false)]=((0,[(0,true),(0,false)],[(0,0),(10,20)],[100,110,110]),0)) (a2:(mk (so 15 1) 0 [(0,true),(0,false)]).2=20) (a3:(mk (so 30 5) 0 [(0,true),(0,false)]).2=27)
  (a4:en (so 30 1) (0,[(0,true),(0,false)],[(0,0),(10,20)],[100,110,110])=(130,0)) (a5:ck (so 30 1) (0,[(0,true),(0,false)],[(0,0),(10,20)],[100,110,110])=0) (a6:rp (so 30 1)=true):Con Tryz.prog entSmall20:=by
 refine con_isM (C:=csSmall20 so mk en ck rp) z8 (by kernel_rfl) (by simp [csSmall20,c1,c2,c3,c4,c5,conSmP]) fun x _ hf=>?_
 dsimp only [entSmall20,z8];simp only [↓hcsSmall20,gSo,gMk,gEn,gCk,gRp,entSome20,entMk,entEnd,entSmP,entCkP,entPlR,undef,go_sem,Nat.reduceAdd,Nat.reduceSub,Nat.reduceMul,Nat.reduceLT,Nat.reduceLeDiff,Nat.reduceEqDiff,Nat.reduceBEq,Nat.reduceBNe,List.reduceReplicate,reduceIte,reduceCtorEq,↓reduceIte]
 refine XW_top (XW_frz 1 3 rfl rfl (XW_of ?_))
 dsimp only
 simp only [↓hcsSmall20,gSo,gMk,gEn,gCk,gRp,entSome20,entMk,entEnd,entSmP,entCkP,entPlR,undef,a1,a2,a3,a4,a5,a6,go_sem,Nat.reduceAdd,Nat.reduceSub,Nat.reduceMul,Nat.reduceLT,Nat.reduceLeDiff,Nat.reduceEqDiff,Nat.reduceBEq,Nat.reduceBNe,List.reduceReplicate,reduceIte,reduceCtorEq,↓reduceIte]
 try simp only [a1,a2,a3,a4,a5,a6,td,reduceCtorEq]
theorem conSmall20:Con Tryz.prog entSmall20:=small_gen (so:=some20) (mk:=makeF) (en:=endP) (ck:=checkP) (rp:=rightP) conSome20 conMk conEnd conCkP conPlR sm1 sm2 sm3 sm4 sm5 sm6
end T
end Go.Proofs.YtecdcopihghnaaaGreat
end
section
namespace Go.Proofs.YtecdcopihghnaaaGreat
set_option linter.unusedVariables false
set_option linter.unusedSimpArgs false
open Go.RowKit Go.IntWalk
namespace T
def entTells20:Ent:=⟨6,.cons (.st (.cons (.int .i64) (.cons (.sl (.st (.cons (.int .i64) (.cons (.int .i64) (.cons (.sl (.int .i64)) (.sl (.int .i64))))))) (.cons (.sl (.st (.cons (.int .i64) (.cons (.int .i64) (.cons (.int .i64) (.cons (.int .i64) (.cons (.int .i64) (.cons (.int .i64) (.cons (.int .i64) (.cons (.int .i64) (.int .i64))))))))))) (.cons (.sl (.st (.cons (.int .i64) (.cons (.int .i64) (.cons (.int .i64) (.cons (.int .i64) (.cons (.int .i64) (.cons (.int .i64) (.cons (.int .i64) (.cons (.int .i64) (.cons (.int .i64) (.int .i64)))))))))))) (.cons (.sl (.st (.cons (.int .i64) (.cons (.int .i64) .bool)))) (.st (.cons (.int .i64) (.cons (.int .i64) (.int .i64)))))))))) (.cons (.int .i64) (.cons (.sl (.st (.cons (.int .i64) .bool))) (.cons (.int .i64) (.cons (.st (.cons (.int .i64) (.int .i64))) (.cons (.st (.cons (.int .i64) (.cons (.sl (.st (.cons (.int .i64) .bool))) (.cons (.sl (.st (.cons (.int .i64) (.int .i64)))) (.sl (.int .i64)))))) .nil))))),.bool,false,none,fun _=>True,fun _=>true⟩
def csTells20:List Ent:=[entSmall20,entFew20,entFwP,entOf20,entLeg,entLegR,entChn,entChR,entMk,entMkR,entEnd,entEnR,entSmC,entSmP,entPlR,entRR20,entCkP,entCkR] theorem hcsTells20 (f:FuncId):findEnt csTells20 f=findEnt [entSmall20,entFew20,entFwP,entOf20,entLeg,entLegR,entChn,entChR,entMk,entMkR,entEnd,entEnR,entSmC,entSmP,entPlR,entRR20,entCkP,entCkR] f:=rfl
theorem conTells20:Con Tryz.prog entTells20:=by
 refine con_is (C:=csTells20) x6 (by kernel_rfl) (by simp [csTells20,conSmall20,conFew20,conFwP,conOf20,conLeg,conLegR,conChn,conChR,conMk,conMkR,conEnd,conEnR,conSmC,conSmP,conPlR,conRR20,conCkP,conCkR]) fun x _ hf=>?_
 obtain ⟨(w:DWorld),(car:Int),(ss:List DStop),(to:Int),(win:Int × Int),(p:DPlan),_⟩:=x
 dsimp only [entTells20,x6]
 cases h1:few20 w ss
 ·simp only [↓hcsTells20,entSmall20,entFew20,entFwP,entOf20,entLeg,entLegR,entChn,entChR,entMk,entMkR,entEnd,entEnR,entSmC,entSmP,entPlR,entRR20,entCkP,entCkR,undef,h1,go_sem,Nat.reduceAdd,Nat.reduceSub,Nat.reduceMul,Nat.reduceLT,Nat.reduceLeDiff,Nat.reduceEqDiff,Nat.reduceBEq,Nat.reduceBNe,List.reduceReplicate,reduceIte,reduceCtorEq,↓reduceIte]
  try simp only [h1,td,reduceCtorEq]
 by_cases h2:p.2.1.length≤10∧p.2.2.1.length≤12∧p.2.2.2.length≤12
 ·have h3:ss.length≤24:=by
   have e:few20 w ss=true→ss.length≤10:=fun h=>by
    unfold few20 at h;rw [Bool.and_eq_true] at h;exact (of_decide_eq_true h.2).2.2.2.2.2
   have:=e h1
   omega
  have h4:p.2.1.length≤24:=by omega
  have h5:decide (p.2.1.length≤10∧p.2.2.1.length≤12∧p.2.2.2.length≤12)=true:=decide_eq_true h2
  simp only [↓hcsTells20,entSmall20,entFew20,entFwP,entOf20,entLeg,entLegR,entChn,entChR,entMk,entMkR,entEnd,entEnR,entSmC,entSmP,entPlR,entRR20,entCkP,entCkR,undef,h1,h3,h4,h5,go_sem,Nat.reduceAdd,Nat.reduceSub,Nat.reduceMul,Nat.reduceLT,Nat.reduceLeDiff,Nat.reduceEqDiff,Nat.reduceBEq,Nat.reduceBNe,List.reduceReplicate,reduceIte,reduceCtorEq,↓reduceIte]
  try simp only [h1,h3,h4,h5,td,reduceCtorEq]
 ·have h5:decide (p.2.1.length≤10∧p.2.2.1.length≤12∧p.2.2.2.length≤12)=false:=decide_eq_false h2
  simp only [↓hcsTells20,entSmall20,entFew20,entFwP,entOf20,entLeg,entLegR,entChn,entChR,entMk,entMkR,entEnd,entEnR,entSmC,entSmP,entPlR,entRR20,entCkP,entCkR,undef,h1,h5,go_sem,Nat.reduceAdd,Nat.reduceSub,Nat.reduceMul,Nat.reduceLT,Nat.reduceLeDiff,Nat.reduceEqDiff,Nat.reduceBEq,Nat.reduceBNe,List.reduceReplicate,reduceIte,reduceCtorEq,↓reduceIte]
  try simp only [h1,h5,td,reduceCtorEq]
end T
end Go.Proofs.YtecdcopihghnaaaGreat
end
