/- Parts of the proof (put together by a program): definitions, lemmas, and the law; no condition. -/
import Derived.Test.YtjlofnjlhgbmoaaGreatR2
import Derived.Test.YtjlofnjlhgbmoaaGreatR43
import Derived.Test.YtjlofnjlhgbmoaaGreatR6
set_option linter.unusedVariables false
set_option linter.unusedSimpArgs false
section
namespace Go.Proofs.YtjlofnjlhgbmoaaGreat
namespace T
def wideW (w:DWorld) (c:Int) (k:DCar):DWorld:=(w.1,w.2.1,w.2.2.1.set c.toNat k,w.2.2.2)
structure Wide (w:DWorld) (c:Int) (k:DCar):Prop where
 car:0≤c∧c < w.2.2.1.length
 same:k.2.1=(carAt w c).2.1∧k.2.2.1=(carAt w c).2.2.1∧k.2.2.2.1=(carAt w c).2.2.2.1
 more:(carLoad (carAt w c)).1≤(carLoad k).1∧(carLoad (carAt w c)).2.1≤(carLoad k).2.1∧(carLoad (carAt w c)).2.2≤(carLoad k).2.2
 old:rightP w=true
 new:rightP (wideW w c k)=true
section
variable {w:DWorld} {c:Int} {k:DCar}
theorem Wide.at (h:Wide w c k):carAt (wideW w c k) c=k:=by
 have:=h.car
 unfold carAt wideW
 simp only [List.getD]
 rw [List.getElem?_set_self (by omega)];rfl
theorem Wide.win (h:Wide w c k) (ss:List DStop):∀ j,winF (wideW w c k) c ss j=winF w c ss j
 | 0=>by
  show ((carAt (wideW w c k) c).2.2.1,(carAt (wideW w c k) c).2.2.2.1)=((carAt w c).2.2.1,(carAt w c).2.2.2.1)
  rw [h.at,h.same.2.1,h.same.2.2]
 | j+1=>by
  rw [winF_s,winF_s,h.at,h.same.2.1,h.same.2.2]
  rfl
theorem Wide.node (h:Wide w c k) (ss:List DStop):∀ j,nodeF (wideW w c k) c ss j=nodeF w c ss j
 | 0=>by
  show (carAt (wideW w c k) c).2.1=(carAt w c).2.1
  rw [h.at,h.same.1]
 | j+1=>rfl
theorem Wide.leg (h:Wide w c k) (ss:List DStop) (j:Nat):legAt (wideW w c k) c ss j=legAt w c ss j:=by
 unfold legAt
 rw [h.node,h.node,h.win]
 rfl
theorem Wide.asks (h:Wide w c k) (ss:List DStop):asksF (wideW w c k) c ss=asksF w c ss:=by
 unfold asksF
 rw [h.old,h.new]
 show (true && (decide (0≤c∧c < ((w.2.2.1.set c.toNat k).length:Int)) && rightS ss w.2.2.2.1))=_
 rw [List.length_set]
theorem Wide.chain (h:Wide w c k) (ss:List DStop):chainF (wideW w c k) c ss=chainF w c ss:=by
 have e1:badW (wideW w c k) c ss=badW w c ss:=funext fun j=>by unfold badW;rw [h.win]
 have e2:(fun j=>!(legAt (wideW w c k) c ss j).2)=fun j=>!(legAt w c ss j).2:=funext fun j=>by rw [h.leg]
 have e3:winsF (wideW w c k) c ss=winsF w c ss:=by
  unfold winsF;exact List.map_congr_left fun j _=>h.win ss j
 have e4:legsF (wideW w c k) c ss=legsF w c ss:=by
  unfold legsF;exact List.map_congr_left fun j _=>by rw [h.leg]
 unfold chainF
 rw [h.asks,e1,e2,e3,e4]
 rfl
theorem Wide.beg (h:Wide w c k) {ss:List DStop} (hn:(begF w c ss).2≠27):begF (wideW w c k) c ss=begF w c ss:=by
 unfold begF at hn ⊢
 rw [h.asks,h.chain,h.at]
 by_cases h1:asksF w c ss=false
 ·rw [if_pos h1,if_pos h1]
 rw [if_neg h1] at hn ⊢
 rw [if_neg h1]
 by_cases h2:(fitsF (carLoad (carAt w c)) ss w.2.2.2.1).2=0
 ·have h3:(fitsF (carLoad k) ss w.2.2.2.1).2=0:=by
   obtain ⟨⟨f1,f2⟩,f3⟩:=fits_zero.1 h2
   have hc:=h.car
   have hmem:carAt (wideW w c k) c ∈ (wideW w c k).2.2.1:=getD_mem2 (by show c.toNat < (w.2.2.1.set c.toNat k).length;rw [List.length_set];omega)
   rw [h.at] at hmem
   have hk:=(rightP_iff.1 h.new).2.2.1 k hmem
   refine fits_zero.2 ⟨⟨f1,?_⟩,fun j hj=>?_⟩
   ·unfold carB allIn at hk
    simp at hk
    exact placesB_iff.2 hk.2.2.2
   ·have h4:=f3 j hj
    have h5:=h.more
    unfold overB at h4 ⊢
    simp only [Bool.or_eq_false_iff,decide_eq_false_iff_not] at h4 ⊢
    omega
  rw [if_neg (Decidable.not_not.2 h2),if_neg (show ¬ (fitsF (carLoad k) ss (wideW w c k).2.2.2.1).2≠0 from Decidable.not_not.2 h3)]
  rfl
 ·rw [if_pos h2] at hn
  exact absurd rfl hn
theorem Wide.make (h:Wide w c k) {ss:List DStop} (hn:(makeF w c ss).2≠27):makeF (wideW w c k) c ss=makeF w c ss:=by
 rw [makeF_eq] at hn
 have hb:(begF w c ss).2≠27:=fun z=>by
  rw [if_pos (by rw [z];decide)] at hn
  exact hn z
 rw [makeF_eq,makeF_eq,h.beg hb]
 rfl
theorem Wide.check (h:Wide w c k) {p:DPlan} (hp:p.1=c) (hn:checkP w p≠27):checkP (wideW w c k) p=checkP w p:=by
 rw [checkP_eq,hp] at hn
 have hb:(begF w c p.2.1).2≠27:=fun z=>by
  rw [if_pos (by rw [z];decide)] at hn
  exact hn z
 rw [checkP_eq,checkP_eq,hp,h.beg hb]
 rfl
theorem Wide.fin (h:Wide w c k) {p:DPlan} (hp:p.1=c) (hn:checkP w p=0):endP (wideW w c k) p=endP w p:=by
 rw [endP_eq,endP_eq,h.check hp (by rw [hn];decide),hp,h.chain]
theorem Wide.line (h:Wide w c k) {p:DPlan} (hp:p.1=c) {r:Int} {a b:Nat} (hn:(lineI w p r a b).2.2.1≠27):lineI (wideW w c k) p r a b=lineI w p r a b:=by
 have hm:makeF (wideW w c k) p.1 (stopsI p.2.1 r a b)=makeF w p.1 (stopsI p.2.1 r a b):=by rw [hp];exact h.make (by rw [← hp];exact hn)
 by_cases h0:(makeF w p.1 (stopsI p.2.1 r a b)).2=0
 ·obtain ⟨k1,k2,k3⟩:=made_ok h0
  have he:=h.fin (p:=(makeF w p.1 (stopsI p.2.1 r a b)).1) (k3.1.trans hp) k2
  unfold lineI
  rw [hm,if_pos h0,if_pos h0,he]
 ·rw [line_no (by rw [hm];exact h0),line_no h0,hm]
theorem Wide.err (h:Wide w c k) {p:DPlan} (hp:p.1=c) {r:Int} (he:errI w p r=0):errI (wideW w c k) p r=0:=by
 unfold errI at he ⊢
 split at he
 ·cases he
 ·rename_i q
  have hc:checkP w p=0:=Decidable.not_not.1 fun z=>q (.inr (.inl z))
  rw [if_neg]
  rintro (z | z | z | z | z)
  ·rw [h.new] at z;cases z
  ·exact z ((h.check hp (by rw [hc];decide)).trans hc)
  ·exact q (.inr (.inr (.inl z)))
  ·exact q (.inr (.inr (.inr (.inl z))))
  ·exact q (.inr (.inr (.inr (.inr z))))
end
theorem lines_ix {n k:Nat}:∀ j,j≤n+1→k < offI n j→∃ a i,a < j∧i < n+1 - a∧k=offI n a+i:=by
 intro j
 induction j with
 | zero=>intro _ h;unfold offI at h;omega
 | succ j ih =>
  intro hj h
  unfold offI at h
  rcases Nat.lt_or_ge k (offI n j) with c | c
  ·obtain ⟨a,i,h1,h2,h3⟩:=ih (by omega) c
   exact ⟨a,i,by omega,h2,h3⟩
  ·exact ⟨j,k - offI n j,by omega,by omega,by omega⟩
theorem Wide.lines {w:DWorld} {c:Int} {k:DCar} (h:Wide w c k) {p:DPlan} (hp:p.1=c) {r:Int} {m:Nat} (hm:m < (linesI w p r).length) (hn:((linesI w p r).getD m dPlace).2.2.1≠27):(linesI (wideW w c k) p r).getD m dPlace=(linesI w p r).getD m dPlace:=by
 rw [lines_len] at hm
 obtain ⟨a,i,h1,h2,h3⟩:=lines_ix _ (Nat.le_refl _) hm
 have e1:=(lines_at w p r (j:=a) (i:=i) (by omega) h2).2.1
 have e2:=(lines_at (wideW w c k) p r (j:=a) (i:=i) (by omega) h2).2.1
 rw [← h3] at e1 e2
 rw [e1] at hn ⊢
 rw [e2]
 exact h.line hp hn
theorem Wide.best {w:DWorld} {c:Int} {k:DCar} (h:Wide w c k) {p:DPlan} (hp:p.1=c) {r:Int} (hb:0≤atN (linesI w p r) (linesI w p r).length):0≤atN (linesI (wideW w c k) p r) (linesI (wideW w c k) p r).length:=by
 rcases atN_best (linesI w p r) (linesI w p r).length with ⟨e,_⟩ | ⟨m,e,hm,h0,_⟩
 ·omega
 have h1:=h.lines hp hm (by rw [h0];decide)
 rcases atN_best (linesI (wideW w c k) p r) (linesI (wideW w c k) p r).length with ⟨_,z⟩ | ⟨m',e',_⟩
 ·have hl:(linesI (wideW w c k) p r).length=(linesI w p r).length:=by rw [lines_len,lines_len]
  exact absurd (by rw [h1];exact h0) (z m (by rw [hl];exact hm))
 ·omega
end T
end Go.Proofs.YtjlofnjlhgbmoaaGreat
end
