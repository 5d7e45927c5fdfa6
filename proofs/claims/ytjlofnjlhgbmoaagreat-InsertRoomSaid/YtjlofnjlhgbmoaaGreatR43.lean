/- Parts of the proof (put together by a program): definitions, lemmas, and the law; no condition. -/
import Derived.Test.YtjlofnjlhgbmoaaGreatR37
import Derived.Test.YtjlofnjlhgbmoaaGreatR42
import Derived.Test.YtjlofnjlhgbmoaaGreatR6
set_option linter.unusedVariables false
set_option linter.unusedSimpArgs false
section
namespace Go.Proofs.YtjlofnjlhgbmoaaGreat
namespace T
theorem offI_small:∀ n,n < 7→2 * offI n (n+1)=(n+1) * (n+2):=by decide
theorem offI_le (n:Nat):∀ j,offI n j≤(n+1) * j
 | 0=>Nat.zero_le _
 | j+1=>by
  have:=offI_le n j
  unfold offI
  rw [Nat.mul_succ]
  omega
theorem line_ok {w:DWorld} {p:DPlan} {r:Int} {a b:Nat} (h:(makeF w p.1 (stopsI p.2.1 r a b)).2=0):checkP w (makeF w p.1 (stopsI p.2.1 r a b)).1=0∧(endP w (makeF w p.1 (stopsI p.2.1 r a b)).1).2=0∧lineI w p r a b=((a:Int),(b:Int),0,(endP w (makeF w p.1 (stopsI p.2.1 r a b)).1).1):=by
 have hc:=(made_ok h).2.1
 refine ⟨hc,?_,?_⟩
 ·rw [endP_eq,if_neg (Decidable.not_not.2 hc)]
 ·unfold lineI;rw [if_pos h,h]
theorem line_no {w:DWorld} {p:DPlan} {r:Int} {a b:Nat} (h:(makeF w p.1 (stopsI p.2.1 r a b)).2≠0):lineI w p r a b=((a:Int),(b:Int),(makeF w p.1 (stopsI p.2.1 r a b)).2,0):=by
 unfold lineI;rw [if_neg h]
end T
end Go.Proofs.YtjlofnjlhgbmoaaGreat
end
