/- Parts of the proof (put together by a program): definitions, lemmas, and the law; no condition. -/
import Derived.Test.YtjlofnjlhgbmoaaGreatR6
import Derived.Test.YtjlofnjlhgbmoaaGreatR7
set_option linter.unusedVariables false
set_option linter.unusedSimpArgs false
section
namespace Go.Proofs.YtjlofnjlhgbmoaaGreat
open Go.RowKit Go.IntWalk
abbrev DLab:=Int × Int
namespace T
theorem rightR_all {n:Int} {A:List DArc} (h:rightR n A=true):(1≤n∧n≤2000)∧A.length≤20000∧∀ a ∈ A,(toArc a).rightB=true∧(0≤a.1∧a.1 < n)∧0≤a.2.1∧a.2.1 < n:=by
 unfold rightR at h
 simp only [Bool.and_eq_true,decide_eq_true_iff,List.all_eq_true] at h
 refine ⟨⟨h.1,h.2.1⟩,h.2.2.1,fun a ha=>?_⟩
 obtain ⟨h1,h2,h3⟩:=h.2.2.2 a ha
 have hr:(toArc a).right:=of_decide_eq_true h1
 have h4:0≤(toArc a).f:=hr.1
 have h5:0≤(toArc a).t:=hr.2.1
 exact ⟨h1,⟨h4,h2⟩,h5,h3⟩
end T
end Go.Proofs.YtjlofnjlhgbmoaaGreat
end
