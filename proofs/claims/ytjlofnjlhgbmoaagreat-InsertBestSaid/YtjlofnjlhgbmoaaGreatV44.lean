/- Parts of the proof (put together by a program): definitions, lemmas, and the law; no condition. -/
import Derived.Test.YtjlofnjlhgbmoaaGreatV37
import Derived.Test.YtjlofnjlhgbmoaaGreatV43
import Derived.Test.YtjlofnjlhgbmoaaGreatV6
set_option linter.unusedVariables false
set_option linter.unusedSimpArgs false
section
namespace Go.Proofs.YtjlofnjlhgbmoaaGreat
namespace T
theorem offI_small:∀ n,n < 7→2 * offI n (n+1)=(n+1) * (n+2):=by decide
theorem offI_le (n:Nat):∀ j,offI n j≤(n+1) * j
 | 0=>Nat.zero_le _
 | j+1=>by
  have:=offI_le n j
  unfold offI
  rw [Nat.mul_succ]
  omega
theorem line_ok {w:DWorld} {p:DPlan} {r:Int} {a b:Nat} (h:(makeF w p.1 (stopsI p.2.1 r a b)).2=0):checkP w (makeF w p.1 (stopsI p.2.1 r a b)).1=0∧(endP w (makeF w p.1 (stopsI p.2.1 r a b)).1).2=0∧lineI w p r a b=((a:Int),(b:Int),0,(endP w (makeF w p.1 (stopsI p.2.1 r a b)).1).1):=by
 have hc:=(made_ok h).2.1
 refine ⟨hc,?_,?_⟩
 ·rw [endP_eq,if_neg (Decidable.not_not.2 hc)]
 ·unfold lineI;rw [if_pos h,h]
theorem line_no {w:DWorld} {p:DPlan} {r:Int} {a b:Nat} (h:(makeF w p.1 (stopsI p.2.1 r a b)).2≠0):lineI w p r a b=((a:Int),(b:Int),(makeF w p.1 (stopsI p.2.1 r a b)).2,0):=by
 unfold lineI;rw [if_neg h]
theorem lines_is (w:DWorld) (p:DPlan) (r:Int) {k:Nat} (hk:k < (linesI w p r).length):∃ a b,a≤b∧b≤p.2.1.length∧(linesI w p r).getD k dPlace=lineI w p r a b:=by
 rw [lines_len] at hk
 have:∀ j,j≤p.2.1.length+1→k < offI p.2.1.length j→∃ a i,a < j∧i < p.2.1.length+1 - a∧k=offI p.2.1.length a+i:=by
  intro j
  induction j with
  | zero=>intro _ h;unfold offI at h;omega
  | succ j ih =>
   intro hj h
   unfold offI at h
   rcases Nat.lt_or_ge k (offI p.2.1.length j) with c | c
   ·obtain ⟨a,i,h1,h2,h3⟩:=ih (by omega) c
    exact ⟨a,i,by omega,h2,h3⟩
   ·exact ⟨j,k - offI p.2.1.length j,by omega,by omega,by omega⟩
 obtain ⟨a,i,h1,h2,h3⟩:=this _ (Nat.le_refl _) hk
 refine ⟨a,a+i,by omega,by omega,?_⟩
 rw [h3]
 exact (lines_at w p r (by omega) h2).2.1
theorem best_is {w:DWorld} {p:DPlan} {r:Int} (h:0≤atN (linesI w p r) (linesI w p r).length):∃ a b:Nat,a≤b∧b≤p.2.1.length∧(linesI w p r).getD (atN (linesI w p r) (linesI w p r).length).toNat dPlace=lineI w p r a b∧(makeF w p.1 (stopsI p.2.1 r a b)).2=0:=by
 rcases atN_best (linesI w p r) (linesI w p r).length with ⟨e,_⟩ | ⟨k,e,hk,h0,_⟩
 ·omega
 rw [e,Int.toNat_natCast]
 obtain ⟨a,b,h1,h2,h3⟩:=lines_is w p r hk
 rw [h3] at h0
 exact ⟨a,b,h1,h2,h3,h0⟩
end T
end Go.Proofs.YtjlofnjlhgbmoaaGreat
end
