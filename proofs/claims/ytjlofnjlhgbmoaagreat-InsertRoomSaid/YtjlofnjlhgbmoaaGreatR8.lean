/- Parts of the proof (put together by a program): definitions, lemmas, and the law; no condition. -/
import Derived.Test.YtjlofnjlhgbmoaaGreatR2
import Derived.Test.YtjlofnjlhgbmoaaGreatR6
import Derived.Test.YtjlofnjlhgbmoaaGreatR7
set_option linter.unusedVariables false
set_option linter.unusedSimpArgs false
section
namespace Go.Proofs.YtjlofnjlhgbmoaaGreat
namespace T
abbrev DWorld:=Int × List DArc × List DCar × List DReq × List DPair × DShift
def allIn (most:Int) (l:List Int):Bool:=l.all fun n=>decide (0≤n∧n≤most)
def carB (m:Int) (c:DCar):Bool:=allIn m [c.2.1] && (allIn 1048576 [c.2.2.1,c.2.2.2.1] && (decide (c.2.2.1≤c.2.2.2.1) && allIn 60 [c.2.2.2.2.1,c.2.2.2.2.2.1,c.2.2.2.2.2.2.1]))
def reqB (m:Int) (q:DReq):Bool:=(allIn 1048576 [q.2.2.2.1,q.2.2.2.2.1,q.2.2.2.2.2.1,q.2.2.2.2.2.2.1] && decide (q.2.2.2.1≤q.2.2.2.2.1)) && (allIn 3999 [q.1] && (allIn m [q.2.1,q.2.2.1] && allIn 60 [q.2.2.2.2.2.2.2.1,q.2.2.2.2.2.2.2.2.1,q.2.2.2.2.2.2.2.2.2]))
def prB (p:DPair):Bool:=allIn 3999 [p.1,p.2.1]
def rightP (w:DWorld):Bool :=
 (rightR w.1 w.2.1 && decide (w.2.2.1.length≤600∧w.2.2.2.1.length≤30000∧w.2.2.2.2.1.length≤4000)) && (w.2.2.1.all (carB (w.1 - 1)) && (w.2.2.2.1.all (reqB (w.1 - 1)) && (w.2.2.2.2.1.all prB && rightK w.2.2.2.2.2 [] [])))
theorem rightR_n {n:Int} {A:List DArc} (h:rightR n A=true):1≤n∧n≤2000∧A.length≤20000∧∀ a ∈ A,(toArc a).rightB=true∧a.1 < n∧a.2.1 < n:=by
 unfold rightR at h
 simp only [Bool.and_eq_true,decide_eq_true_eq,List.all_eq_true] at h
 exact ⟨h.1,h.2.1,h.2.2.1,fun a ha=>by have:=h.2.2.2 a ha;exact ⟨this.1,this.2.1,this.2.2⟩⟩
theorem rightP_iff {w:DWorld}:rightP w=true ↔ rightR w.1 w.2.1=true∧(w.2.2.1.length≤600∧w.2.2.2.1.length≤30000∧w.2.2.2.2.1.length≤4000)∧(∀ c ∈ w.2.2.1,carB (w.1 - 1) c=true)∧(∀ q ∈ w.2.2.2.1,reqB (w.1 - 1) q=true)∧(∀ p ∈ w.2.2.2.2.1,prB p=true)∧rightK w.2.2.2.2.2 [] []=true:=by
 unfold rightP
 simp only [Bool.and_eq_true,decide_eq_true_eq,List.all_eq_true,and_assoc]
end T
end Go.Proofs.YtjlofnjlhgbmoaaGreat
end
