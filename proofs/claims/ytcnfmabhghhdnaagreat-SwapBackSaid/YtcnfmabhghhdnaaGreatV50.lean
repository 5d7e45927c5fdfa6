/- Parts of the proof (put together by a program): definitions, lemmas, and the law; no condition. -/
import Derived.Test.YtcnfmabhghhdnaaGreatV42
import Derived.Test.YtcnfmabhghhdnaaGreatV47
import Derived.Test.YtcnfmabhghhdnaaGreatV49
import Derived.Test.YtcnfmabhghhdnaaGreatV6
set_option linter.unusedVariables false
set_option linter.unusedSimpArgs false
section
namespace Go.Proofs.YtcnfmabhghhdnaaGreat
namespace T
theorem moved_no {w:DWorld} {ps:List DPlan} {m:DMove} (h:(movedF w ps m).2≠0):(movedF w ps m).1=[]:=by
 unfold movedF movedG at h ⊢
 by_cases b1:badM ps m
 ·rw [if_pos b1]
 rw [if_neg b1] at h ⊢
 by_cases b2:offM ps m
 ·rw [if_pos b2]
 rw [if_neg b2] at h ⊢
 split at h
 ·rename_i c;rw [if_pos c]
 rename_i c
 rw [if_neg c]
 split at h
 ·exact absurd rfl h
 rename_i c
 rw [if_neg c]
 split at h
 ·rename_i c;rw [if_pos c]
 ·exact absurd rfl h
theorem try_no {w:DWorld} {ps:List DPlan} {m:DMove} (h:(tryF w ps m).2≠0):(tryF w ps m).1=[]:=by
 unfold tryF at h ⊢
 by_cases c:rightPs w ps=true
 ·rw [if_pos c] at h ⊢;exact moved_no h
 ·rw [if_neg c]
theorem try_yes {w:DWorld} {ps:List DPlan} {m:DMove} (h:(tryF w ps m).2=0):RightPs w ps∧tryF w ps m=movedF w ps m:=by
 unfold tryF at h ⊢
 by_cases c:rightPs w ps=true
 ·rw [if_pos c];exact ⟨rightPs_iff.1 c,rfl⟩
 ·rw [if_neg c] at h;exact absurd h (by show ¬ (1:Int)=0;decide)
theorem try_right {w:DWorld} {ps:List DPlan} {m:DMove} (h:RightPs w ps):tryF w ps m=movedF w ps m:=by
 unfold tryF;rw [if_pos (rightPs_iff.2 h)]
theorem sum_right {w:DWorld} {ps:List DPlan} (h:RightPs w ps):sumF w ps=(totalF w ps,true):=by
 unfold sumF;rw [if_pos (rightPs_iff.2 h)]
theorem sum_no {w:DWorld} {ps:List DPlan} (h:rightPs w ps=false):sumF w ps=(0,false):=by
 unfold sumF;rw [if_neg (by rw [h];decide)]
theorem imp_no {w:DWorld} {ps:List DPlan} (h:rightPs w ps=false):improveF w ps=([],[],1):=by
 unfold improveF;rw [if_neg (by rw [h];decide)]
theorem imp_yes {w:DWorld} {ps:List DPlan} (h:RightPs w ps):improveF w ps=([],[],6)∨∃ L ms,improveF w ps=(L,ms,0)∧ms.length≤101∧ChainM w ps ms L∧(scanF w L).1=none:=by
 unfold improveF
 rw [if_pos (rightPs_iff.2 h)]
 rcases imp_spec w 101 ps [] with ⟨_,q⟩ | ⟨q,ms,q1,q2,q3,q4⟩
 ·exact .inl q
 ·refine .inr ⟨_,ms,?_,q2,q3,q4⟩
  rw [List.nil_append] at q1
  exact Prod.ext rfl (Prod.ext q1 q)
theorem car_cnt (a b:List DPlan) (r:Int):∀ i,carN a b r i=cntN a (r,true) i - cntN b (r,true) i+100 * (cntN a (r,false) i - cntN b (r,false) i)
 | 0=>rfl
 | i+1=>by
  have h:=car_cnt a b r i
  unfold carN cntN oneI
  have e:∀ (x:DStop) (p:DPlan) (c:Int),(if 0≤atF x p.2.1 then c else 0)=if x ∈ p.2.1 then c else 0:=fun x p c=>by
   by_cases q:x ∈ p.2.1
   ·rw [if_pos q,if_pos (at_mem.2 q)]
   ·rw [if_neg q,if_neg fun z=>q (at_mem.1 z)]
  rw [e,e,e,e,h]
  split <;> split <;> split <;> split <;> omega
theorem car_same {w:DWorld} {ps l:List DPlan} (hr:RightPs w ps) (hl:RightPs w l) (hlen:l.length=ps.length) (h:∀ s,inPs l s ↔ inPs ps s) (q:Int):crdB ps l q=true:=by
 refine crd_iff.2 ⟨fun r _=>?_,hlen.symm⟩
 have h1:=cnt_same hr hl (h (r,true))
 have h2:=cnt_same hr hl (h (r,false))
 rw [hlen] at h1 h2
 rw [hlen,Nat.min_self,car_cnt,h1,h2]
 omega
end T
end Go.Proofs.YtcnfmabhghhdnaaGreat
end
section
namespace Go.Proofs.YtcnfmabhghhdnaaGreat
namespace T
abbrev exS0:List DStop:=[(0,true),(0,false),(1,true),(1,false)]
abbrev exP0:DPlan:=(0,[(0,true),(0,false),(1,true),(1,false)],[(20,20),(10,10),(0,0),(10,10)],[0,0,0,0,0])
abbrev exP1:DPlan:=(1,[],[],[0])
abbrev exT0:DPlan:=(0,[(1,true),(1,false)],[(10,10),(10,10)],[0,0,0])
abbrev exT1:DPlan:=(1,[(0,true),(0,false)],[(0,0),(10,10)],[0,0,0])
abbrev exU0:DPlan:=(0,[(1,true),(0,true),(1,false),(0,false)],[(10,10),(10,10),(0,0),(10,10)],[0,0,0,0,0])
theorem ex1:makeF exW 0 exS0=(exP0,0):=by rw [mkE_eq];decide +kernel
theorem ex2:makeF exW 1 []=(exP1,0):=by rw [mkE_eq];decide +kernel
theorem exR {a b:DPlan} (h1:a.1=0) (h2:b.1=1) (h3:ckE a=0) (h4:ckE b=0) (h5:apartB a b=true):RightPs exW [a,b]:=by
 refine ⟨by decide,rfl,fun j hj=>?_⟩
 have:j=0∨j=1:=by have:j < 2:=hj;omega
 rcases this with rfl | rfl
 ·exact ⟨⟨h1,(ckE_eq a).trans h3⟩,fun i hi=>absurd hi (Nat.not_lt_zero _)⟩
 ·refine ⟨⟨h2,(ckE_eq b).trans h4⟩,fun i hi=>?_⟩
  obtain rfl:i=0:=by omega
  exact h5
theorem exRP:RightPs exW [exP0,exP1]:=exR rfl rfl (by decide +kernel) (by decide +kernel) (by decide)
theorem exRT:RightPs exW [exT0,exT1]:=exR rfl rfl (by decide +kernel) (by decide +kernel) (by decide)
theorem exRU:RightPs exW [exU0,exP1]:=exR rfl rfl (by decide +kernel) (by decide +kernel) (by decide)
theorem ex3:sumF exW [exP0,exP1]=(40,true):=by
 rw [sum_right exRP]
 unfold totalF
 rw [enE_fun]
 decide +kernel
theorem ex4:tryF exW [exP0,exP1] (0,0,1,0,0)=([exT0,exT1],0):=by
 rw [try_right exRP]
 unfold movedF
 rw [mkE_fun]
 kernel_rfl
theorem ex5:sumF exW [exT0,exT1]=(30,true):=by
 rw [sum_right exRT]
 unfold totalF
 rw [enE_fun]
 decide +kernel
theorem ex6:improveF exW [exP0,exP1]=([exU0,exP1],[(0,0,0,1,2)],0):=by
 unfold improveF
 rw [if_pos (rightPs_iff.2 exRP)]
 unfold impF
 rw [mkE_fun,enE_fun]
 kernel_rfl
theorem ex7:sumF exW [exU0,exP1]=(30,true):=by
 rw [sum_right exRU]
 unfold totalF
 rw [enE_fun]
 decide +kernel
theorem end_val {w:DWorld} {p:DPlan} {t:Int} (h:checkP w p=0) (e:endF w p=t):endP w p=(t,0):=by
 unfold endF at e
 refine Prod.ext e ?_
 rw [endP_eq,if_neg (Decidable.not_not.2 h)]
theorem ex8:endP exW exT0=(20,0):=end_val ((ckE_eq _).trans (by decide +kernel)) (by rw [enE_fun];decide +kernel)
end T
end Go.Proofs.YtcnfmabhghhdnaaGreat
end
