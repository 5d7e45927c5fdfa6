/- Parts of the proof (put together by a program): definitions, lemmas, and the law; no condition. -/
import Derived.Test.YtcnfmabhghhdnaaGreatV12
import Derived.Test.YtcnfmabhghhdnaaGreatV2
import Derived.Test.YtcnfmabhghhdnaaGreatV6
set_option linter.unusedVariables false
set_option linter.unusedSimpArgs false
section
namespace Go.Proofs.YtcnfmabhghhdnaaGreat
namespace T
def waitAt (c:DChain) (g:List Int) (k:Nat):DLeg :=
 if k=0 then (0,0) else ((playF g (highsF c.2.1)).getD k 0 - (playF g (highsF c.2.1)).getD (k - 1) 0 - (c.2.1.getD (k - 1) (0,0)).2,(playF g (lowsF c.2.1)).getD k 0 - (playF g (lowsF c.2.1)).getD (k - 1) 0 - (c.2.1.getD (k - 1) (0,0)).1)
def waitsF (c:DChain) (g:List Int):List DLeg:=(List.range c.2.1.length).map (waitAt c g)
def waitsTo (c:DChain) (g:List Int) (j:Nat):List DLeg:=(List.range c.2.1.length).map fun k=>if k < j then waitAt c g k else (0,0)
def restsF (w:DWorld) (c:DChain) (g:List Int):Bool:=decide ((checkK w.2.2.2.2.2 c.2.1 (waitsF c g)).2=0)
theorem waitsTo_len (c:DChain) (g:List Int) (j:Nat):(waitsTo c g j).length=c.2.1.length:=by unfold waitsTo;rw [List.length_map,List.length_range]
theorem waitsTo_at (c:DChain) (g:List Int) (j k:Nat) (h:k < (waitsTo c g j).length):(waitsTo c g j)[k]=if k < j then waitAt c g k else (0,0):=by simp [waitsTo]
theorem waitsTo_1 (c:DChain) (g:List Int):waitsTo c g 1=List.replicate c.2.1.length (0,0):=by
 refine List.ext_getElem (by rw [waitsTo_len,List.length_replicate]) fun k h1 h2=>?_
 rw [waitsTo_at,List.getElem_replicate]
 split
 ·rw [show k=0 by omega];rfl
 ·rfl
theorem waitsTo_set (c:DChain) (g:List Int) (j:Nat):(waitsTo c g j).set j (waitAt c g j)=waitsTo c g (j+1):=by
 refine List.ext_getElem (by rw [List.length_set,waitsTo_len,waitsTo_len]) fun k h1 h2=>?_
 rw [List.getElem_set,waitsTo_at,waitsTo_at]
 by_cases q:j=k
 ·subst q
  rw [if_pos rfl,if_pos (by omega)]
 ·rw [if_neg q]
  by_cases q2:k < j
  ·rw [if_pos q2,if_pos (by omega)]
  ·rw [if_neg q2,if_neg (by omega)]
theorem waitsTo_all (c:DChain) (g:List Int) {j:Nat} (h:c.2.1.length≤j):waitsTo c g j=waitsF c g:=by
 unfold waitsTo waitsF
 refine List.map_congr_left fun k hk=>?_
 have:=List.mem_range.1 hk
 rw [if_pos (by omega)]
theorem legs_took {c:DChain} (h:rightC c=true):tookB c.2.1 (lowsF c.2.1)=true∧tookB c.2.1 (highsF c.2.1)=true:=by
 refine ⟨tookB_iff.2 ⟨lows_len _,fun k hk=>?_⟩,tookB_iff.2 ⟨highs_len _,fun k hk=>?_⟩⟩
 ·rw [lows_getD];have:=right_leg h hk;omega
 ·rw [highs_getD];have:=right_leg h hk;omega
theorem rn_lows {c:DChain} {g:List Int} (h:fitsG c g=true):rnF c g (lowsF c.2.1)=(playF g (lowsF c.2.1),0):=by
 unfold rnF;rw [if_pos ⟨h,(legs_took (fitsG_iff.1 h).1).1⟩]
theorem rn_highs {c:DChain} {g:List Int} (h:fitsG c g=true):rnF c g (highsF c.2.1)=(playF g (highsF c.2.1),0):=by
 unfold rnF;rw [if_pos ⟨h,(legs_took (fitsG_iff.1 h).1).2⟩]
end T
end Go.Proofs.YtcnfmabhghhdnaaGreat
end
