/- Parts of the proof (put together by a program): definitions, lemmas, and the law; no condition. -/
import Derived.Test.YtjlofnjlhgbmoaaGreatR41
import Derived.Test.YtjlofnjlhgbmoaaGreatR6
set_option linter.unusedVariables false
set_option linter.unusedSimpArgs false
section
namespace Go.Proofs.YtjlofnjlhgbmoaaGreat
namespace T
theorem guard_ok {c:DChain} (h:(guardF c).2=0):rightC c=true∧(guardF c).1=gsF c c.1.length∧∀ r ∈ c.2.2,lateR c r=false:=by
 unfold guardF at h ⊢
 by_cases h1:rightC c=false
 ·rw [if_pos h1] at h;cases h
 by_cases h2:c.2.2.any (lateR c)=true
 ·rw [if_neg h1,if_pos h2] at h;cases h
 by_cases h3:inTime c (playF (gsF c c.1.length) (highsF c.2.1))=false
 ·rw [if_neg h1,if_neg h2,if_pos h3] at h;cases h
 rw [if_neg h1,if_neg h2,if_neg h3]
 exact ⟨by rwa [Bool.not_eq_false] at h1,rfl,late_none h2⟩
theorem guard_keeps20 {c:DChain} (h:(guardF c).2=0):keeps20 c (guardF c).1=true:=by
 have hf:=guard_fits h
 have hr:=(fitsG_iff.1 hf).1
 have hn:=(rightC_iff.1 hr).1
 have hc:∀ k,k≤c.2.1.length→cutF c (guardF c).1 (lowsF c.2.1) (highsF c.2.1) k=true:=fun k hk=>by
  unfold cutF
  rw [cut_run hf hk]
  exact guard_keeps h (cut_took hr hk)
 refine keeps20_iff.2 ⟨⟨hc 0 (Nat.zero_le _),hc _ (Nat.le_refl _)⟩,fun r hr'=>?_⟩
 have h4:=(rightC_iff.1 hr).2.2.2 r hr'
 exact hc _ (by omega)
theorem made_ok {w:DWorld} {c:Int} {ss:List DStop} (h:(makeF w c ss).2=0):(chainF w c ss).2=0∧checkP w (makeF w c ss).1=0∧(makeF w c ss).1.1=c∧(makeF w c ss).1.2.1=ss∧(makeF w c ss).1.2.2.1=(chainF w c ss).1.2.1:=by
 rw [makeF_eq] at h ⊢
 by_cases h1:(begF w c ss).2≠0
 ·rw [if_pos h1] at h;exact absurd h h1
 by_cases h2:(guardF (begF w c ss).1).2≠0
 ·rw [if_neg h1,if_pos h2] at h;cases h
 by_cases h3:restsF w (begF w c ss).1 (guardF (begF w c ss).1).1=false
 ·rw [if_neg h1,if_neg h2,if_pos h3] at h;cases h
 rw [if_neg h1,if_neg h2,if_neg h3]
 have hb:=beg_ok (Decidable.not_not.1 h1)
 have hg:=Decidable.not_not.1 h2
 obtain ⟨g1,g2,g3⟩:=guard_ok hg
 refine ⟨by rw [← hb];exact Decidable.not_not.1 h1,?_,rfl,rfl,by rw [← hb]⟩
 rw [checkP_eq]
 dsimp only
 have ho:okC w (c,ss,(begF w c ss).1.2.1,(guardF (begF w c ss).1).1) (begF w c ss).1=true:=by
  unfold okC
  dsimp only
  rw [decide_eq_true rfl,g2,gsF_len,decide_eq_true rfl,g1,allIn_within.2 (gs_low g1 g3 _ (Nat.le_refl _))]
  rfl
 rw [if_neg h1,if_neg (by rw [ho];decide),if_neg (by rw [guard_keeps20 hg];decide),if_neg h3]
end T
end Go.Proofs.YtjlofnjlhgbmoaaGreat
end
