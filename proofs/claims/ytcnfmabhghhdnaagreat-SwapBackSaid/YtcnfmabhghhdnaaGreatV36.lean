/- Parts of the proof (put together by a program): definitions, lemmas, and the law; no condition. -/
import Derived.Test.YtcnfmabhghhdnaaGreatV34
import Derived.Test.YtcnfmabhghhdnaaGreatV35
import Derived.Test.YtcnfmabhghhdnaaGreatV6
set_option linter.unusedVariables false
set_option linter.unusedSimpArgs false
section
namespace Go.Proofs.YtcnfmabhghhdnaaGreat
namespace T
theorem chain_ok {w:DWorld} {c:Int} {ss:List DStop} (h:(chainF w c ss).2=0):asksF w c ss=true∧chainF w c ss=((winsF w c ss,legsF w c ss,ridesR w ss ss.length),0):=by
 unfold chainF at h ⊢
 by_cases h1:asksF w c ss=false
 ·rw [if_pos h1] at h;cases h
 by_cases h2:(List.range (ss.length+1)).any (badW w c ss)=true
 ·rw [if_neg h1,if_pos h2] at h;cases h
 by_cases h3:(List.range ss.length).any (fun k=>!(legAt w c ss k).2)=true
 ·rw [if_neg h1,if_neg h2,if_pos h3] at h;cases h
 rw [if_neg h1,if_neg h2,if_neg h3]
 exact ⟨by rwa [Bool.not_eq_false] at h1,rfl⟩
theorem good_has {w:DWorld} {p:DPlan} (h:checkP w p=0):asksF w p.1 p.2.1=true∧chainF w p.1 p.2.1=((winsF w p.1 p.2.1,p.2.2.1,ridesR w p.2.1 p.2.1.length),0)∧rightC (winsF w p.1 p.2.1,p.2.2.1,ridesR w p.2.1 p.2.1.length)=true ∧
  fitsG (winsF w p.1 p.2.1,p.2.2.1,ridesR w p.2.1 p.2.1.length) p.2.2.2=true∧keeps20 (winsF w p.1 p.2.1,p.2.2.1,ridesR w p.2.1 p.2.1.length) p.2.2.2=true:=by
 obtain ⟨_,h2,h3,h4,_⟩:=check_ok h
 obtain ⟨h5,h6⟩:=chain_ok h2
 have h7:=okC_fits h3
 have e:p.2.2.1=legsF w p.1 p.2.1:=by
  unfold okC at h3
  rw [h6] at h3
  rw [Bool.and_eq_true] at h3
  exact of_decide_eq_true h3.1
 rw [h6] at h4 h7
 rw [e]
 exact ⟨h5,h6,h7.1,h7.2,h4⟩
theorem good_legs {w:DWorld} {p:DPlan} (h:checkP w p=0):p.2.2.1.length=p.2.1.length∧∀ x ∈ p.2.2.1,legB x=true:=by
 obtain ⟨_,_,h3,_,_⟩:=good_has h
 have h4:=rightC_iff.1 h3
 refine ⟨?_,fun x hx=>decide_eq_true (h4.2.2.1 x hx)⟩
 have h5:=h4.1.2.2.1
 dsimp only [winsF] at h5
 rw [List.length_map,List.length_range] at h5
 omega
theorem good_worst {w:DWorld} {p:DPlan} (h:checkP w p=0):worstF (chainF w p.1 p.2.1).1 p.2.2.2=(playF p.2.2.2 (highsF p.2.2.1),0):=by
 obtain ⟨_,h2,_,h4,_⟩:=good_has h
 rw [h2]
 unfold worstF
 rw [if_pos h4]
theorem guard_ok {c:DChain} (h:(guardF c).2=0):rightC c=true∧(guardF c).1=gsF c c.1.length∧∀ r ∈ c.2.2,lateR c r=false:=by
 unfold guardF at h ⊢
 by_cases h1:rightC c=false
 ·rw [if_pos h1] at h;cases h
 by_cases h2:c.2.2.any (lateR c)=true
 ·rw [if_neg h1,if_pos h2] at h;cases h
 by_cases h3:inTime c (playF (gsF c c.1.length) (highsF c.2.1))=false
 ·rw [if_neg h1,if_neg h2,if_pos h3] at h;cases h
 rw [if_neg h1,if_neg h2,if_neg h3]
 exact ⟨by rwa [Bool.not_eq_false] at h1,rfl,late_none h2⟩
theorem guard_keeps20 {c:DChain} (h:(guardF c).2=0):keeps20 c (guardF c).1=true:=by
 have hf:=guard_fits h
 have hr:=(fitsG_iff.1 hf).1
 have hn:=(rightC_iff.1 hr).1
 have hc:∀ k,k≤c.2.1.length→cutF c (guardF c).1 (lowsF c.2.1) (highsF c.2.1) k=true:=fun k hk=>by
  unfold cutF
  rw [cut_run hf hk]
  exact guard_keeps h (cut_took hr hk)
 refine keeps20_iff.2 ⟨⟨hc 0 (Nat.zero_le _),hc _ (Nat.le_refl _)⟩,fun r hr'=>?_⟩
 have h4:=(rightC_iff.1 hr).2.2.2 r hr'
 exact hc _ (by omega)
theorem made_ok {w:DWorld} {c:Int} {ss:List DStop} (h:(makeF w c ss).2=0):(chainF w c ss).2=0∧checkP w (makeF w c ss).1=0∧(makeF w c ss).1.1=c∧(makeF w c ss).1.2.1=ss∧(makeF w c ss).1.2.2.1=(chainF w c ss).1.2.1:=by
 rw [makeF_eq] at h ⊢
 by_cases h1:(begF w c ss).2≠0
 ·rw [if_pos h1] at h;exact absurd h h1
 by_cases h2:(guardF (begF w c ss).1).2≠0
 ·rw [if_neg h1,if_pos h2] at h;cases h
 by_cases h3:restsF w (begF w c ss).1 (guardF (begF w c ss).1).1=false
 ·rw [if_neg h1,if_neg h2,if_pos h3] at h;cases h
 rw [if_neg h1,if_neg h2,if_neg h3]
 have hb:=beg_ok (Decidable.not_not.1 h1)
 have hg:=Decidable.not_not.1 h2
 obtain ⟨g1,g2,g3⟩:=guard_ok hg
 refine ⟨by rw [← hb];exact Decidable.not_not.1 h1,?_,rfl,rfl,by rw [← hb]⟩
 rw [checkP_eq]
 dsimp only
 have ho:okC w (c,ss,(begF w c ss).1.2.1,(guardF (begF w c ss).1).1) (begF w c ss).1=true:=by
  unfold okC
  dsimp only
  rw [decide_eq_true rfl,g2,gsF_len,decide_eq_true rfl,g1,allIn_within.2 (gs_low g1 g3 _ (Nat.le_refl _))]
  rfl
 rw [if_neg h1,if_neg (by rw [ho];decide),if_neg (by rw [guard_keeps20 hg];decide),if_neg h3]
end T
end Go.Proofs.YtcnfmabhghhdnaaGreat
end
section
namespace Go.Proofs.YtcnfmabhghhdnaaGreat
namespace T
theorem stopsI_parts {ss:List DStop} {r:Int} {a b:Nat} (hab:a≤b) (hb:b≤ss.length):stopsI ss r a b=ss.take a ++ ([(r,true)] ++ ((ss.take b).drop a ++ ([(r,false)] ++ ss.drop b))):=by
 have h:=outI_3 (r:=r) hab hb (ss.length - b) (by omega)
 rw [show b+(ss.length - b+1)=ss.length+1 by omega,List.take_of_length_le (i:=ss.length+1) (by omega),outI_all hab hb] at h
 exact h
end T
end Go.Proofs.YtcnfmabhghhdnaaGreat
end
