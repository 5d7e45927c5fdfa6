/- Parts of the proof of the law; no condition. -/
import Derived.Test.YtcnfmabhghhdnaaGreatA31
set_option linter.all false
section
namespace Go.Proofs.YtcnfmabhghhdnaaGreat
namespace T
abbrev DPlace:=Int×Int×Int×Int
@[reducible] def dPlace:DPlace:=(0,0,0,0)
def stopsI (ss:List DStop) (r a b:Int):List DStop:=if a<0∨b<a∨(ss.length:Int)<b then [] else insF (insF ss b.toNat [(r,false)]) a.toNat [(r,true)]
def isBest (L:List DPlace) (P:Nat→Prop) (x:Int):Prop:=
 (x= -1∧∀i,P i→(L.getD i dPlace).2.2.1≠0)∨∃k:Nat,x=k∧P k∧(L.getD k dPlace).2.2.1=0∧∀i,P i→(L.getD i dPlace).2.2.1=0→(L.getD k dPlace).2.2.2≤(L.getD i dPlace).2.2.2∧(i<k→(L.getD k dPlace).2.2.2<(L.getD i dPlace).2.2.2)
theorem isBest.same {L:List DPlace} {P:Nat→Prop} {x y:Int} (h:isBest L P x) (h':isBest L P y):x=y:=by
 rcases h with ⟨rfl,h⟩|⟨k,rfl,hk,h0,h⟩
 ·rcases h' with ⟨rfl,h'⟩|⟨k',rfl,hk',h0',h'⟩
  ·rfl
  ·exact absurd h0' (h k' hk')
 ·rcases h' with ⟨rfl,h'⟩|⟨k',rfl,hk',h0',h'⟩
  ·exact absurd h0 (h' k hk)
  ·have a:=h k' hk' h0';have b:=h' k hk h0;rcases Nat.lt_trichotomy k k' with c|c|c
   ·have:=b.2 c;omega
   ·rw[c]
   ·have:=a.2 c;omega
theorem insF_len {α:Type} (l:List α) {k:Nat} (hk:k≤l.length) (x:α):(insF l k [x]).length=l.length+1:=by
 unfold insF;simp only[List.length_append,List.length_take,List.length_drop,List.length_cons,List.length_nil];omega
theorem stopsI_len (ss:List DStop) (r a b:Int):(stopsI ss r a b).length≤ss.length+2:=by
 unfold stopsI;split
 ·exact Nat.zero_le _
 ·rename_i c;rw[insF_len _ (by rw[insF_len _ (by omega)];omega),insF_len _ (by omega)];exact Nat.le_refl _
def outI (ss:List DStop) (r:Int) (a b:Nat):Nat→List DStop
 |0=>[]
 |j+1=>outI ss r a b j++((if j=a then [(r,true)] else [])++((if j=b then [(r,false)] else [])++if j<ss.length then [ss.getD j dStop] else []))
theorem take_s {ss:List DStop} {j:Nat} (h:j<ss.length):ss.take j++[ss.getD j dStop]=ss.take (j+1):=by
 rw[List.take_succ_eq_append_getElem h,List.getD_eq_getElem?_getD,List.getElem?_eq_getElem h];rfl
theorem outI_1 {ss:List DStop} {r:Int} {a b:Nat} (hab:a≤b) (hb:b≤ss.length):∀j,j≤a→outI ss r a b j=ss.take j
 |0,_=>rfl
 |j+1,h=>by
  unfold outI;rw[outI_1 hab hb j (by omega),if_neg (by omega),if_neg (by omega),if_pos (by omega),List.nil_append,List.nil_append,take_s (by omega)]
theorem mid_s {ss:List DStop} {a j:Nat} (h:j<ss.length) (ha:a≤j):(ss.take j).drop a++[ss.getD j dStop]=(ss.take (j+1)).drop a:=by
 rw[←take_s h,List.drop_append_of_le_length (by rw[List.length_take];omega)]
theorem outI_2 {ss:List DStop} {r:Int} {a b:Nat} (hab:a≤b) (hb:b≤ss.length):∀d,a+(d+1)≤b→outI ss r a b (a+(d+1))=ss.take a++([(r,true)]++(ss.take (a+(d+1))).drop a)
 |0,h=>by
  show outI ss r a b (a+1)=_;unfold outI;rw[outI_1 hab hb a (Nat.le_refl _),if_pos rfl,if_neg (by omega),if_pos (by omega),List.nil_append,←mid_s (a:=a) (j:=a) (by omega) (Nat.le_refl _),List.drop_take,Nat.sub_self,List.take_zero,List.nil_append]
 |d+1,h=>by
  show outI ss r a b (a+(d+1)+1)=_;unfold outI;rw[outI_2 hab hb d (by omega),if_neg (by omega),if_neg (by omega),if_pos (by omega),List.nil_append,List.nil_append,show a+(d+1+1)=a+(d+1)+1 by omega,←mid_s (a:=a) (j:=a+(d+1)) (by omega) (by omega)];simp only[List.append_assoc]
theorem outI_b {ss:List DStop} {r:Int} {a b:Nat} (hab:a≤b) (hb:b≤ss.length):outI ss r a b b++(if b=a then [(r,true)] else [])=ss.take a++([(r,true)]++(ss.take b).drop a):=by
 rcases Nat.lt_or_ge a b with c|c
 ·have:=outI_2 (r:=r) hab hb (b-a-1) (by omega);rw[show a+(b-a-1+1)=b by omega] at this;rw[this,if_neg (by omega),List.append_nil]
 ·obtain rfl:a=b:=by omega
  rw[outI_1 hab hb a (Nat.le_refl _),if_pos rfl,List.drop_take,Nat.sub_self,List.take_zero,List.append_nil]
theorem outI_3 {ss:List DStop} {r:Int} {a b:Nat} (hab:a≤b) (hb:b≤ss.length):∀d,b+(d+1)≤ss.length+1→outI ss r a b (b+(d+1))=ss.take a++([(r,true)]++((ss.take b).drop a++([(r,false)]++(ss.take (b+(d+1))).drop b)))
 |0,h=>by
  show outI ss r a b (b+1)=_;unfold outI;rw[←List.append_assoc,outI_b hab hb,if_pos rfl];by_cases c:b<ss.length
  ·rw[if_pos c,←mid_s (a:=b) (j:=b) c (Nat.le_refl _),List.drop_take,List.drop_take,Nat.sub_self,List.take_zero,List.nil_append];simp only[List.append_assoc]
  ·rw[if_neg c,List.drop_of_length_le (i:=b) (by rw[List.length_take];omega)];simp only[List.append_assoc]
 |d+1,h=>by
  show outI ss r a b (b+(d+1)+1)=_;unfold outI;rw[outI_3 hab hb d (by omega),if_neg (by omega),if_neg (by omega),List.nil_append,List.nil_append,show b+(d+1+1)=b+(d+1)+1 by omega];by_cases c:b+(d+1)<ss.length
  ·rw[if_pos c,←mid_s (a:=b) (j:=b+(d+1)) c (by omega)];simp only[List.append_assoc]
  ·rw[if_neg c,List.append_nil,List.take_of_length_le (i:=b+(d+1)) (by omega),List.take_of_length_le (i:=b+(d+1)+1) (by omega)]
theorem outI_all {ss:List DStop} {r:Int} {a b:Nat} (hab:a≤b) (hb:b≤ss.length):outI ss r a b (ss.length+1)=stopsI ss r a b:=by
 have h:=outI_3 (r:=r) hab hb (ss.length-b) (by omega);rw[show b+(ss.length-b+1)=ss.length+1 by omega,List.take_of_length_le (i:=ss.length+1) (by omega)] at h;rw[h];unfold stopsI;rw[if_neg (by omega),Int.toNat_natCast,Int.toNat_natCast];unfold insF;have hl:(ss.take b).length=b:=by rw[List.length_take];omega
 rw[List.append_assoc (ss.take b) [(r,false)] (ss.drop b),List.take_append_of_le_length (by omega),List.take_take,Nat.min_eq_left hab,List.drop_append_of_le_length (by omega)];simp only[List.append_assoc]
theorem outI_len {ss:List DStop} {r:Int} {a b:Nat}:∀j,(outI ss r a b j).length≤3*j
 |0=>Nat.zero_le _
 |j+1=>by
  have:=outI_len (ss:=ss) (r:=r) (a:=a) (b:=b) j;unfold outI;simp only[List.length_append];have h1:(if j=a then [(r,true)] else []:List DStop).length≤1:=by split<;>simp
  have h2:(if j=b then [(r,false)] else []:List DStop).length≤1:=by split<;>simp
  have h3:(if j<ss.length then [ss.getD j dStop] else []).length≤1:=by split<;>simp
  omega
theorem chain_ok {w:DWorld} {c:Int} {ss:List DStop} (h:(chainF w c ss).2=0):asksF w c ss=true∧chainF w c ss=((winsF w c ss,legsF w c ss,ridesR w ss ss.length),0):=by
 unfold chainF at h⊢;by_cases h1:asksF w c ss=false
 ·rw[if_pos h1] at h;cases h
 by_cases h2:(List.range (ss.length+1)).any (badW w c ss)=true
 ·rw[if_neg h1,if_pos h2] at h;cases h
 by_cases h3:(List.range ss.length).any (fun k=>!(legAt w c ss k).2)=true
 ·rw[if_neg h1,if_neg h2,if_pos h3] at h;cases h
 rw[if_neg h1,if_neg h2,if_neg h3];exact ⟨by rwa [Bool.not_eq_false] at h1,rfl⟩
theorem good_has {w:DWorld} {p:DPlan} (h:checkP w p=0):asksF w p.1 p.2.1=true∧chainF w p.1 p.2.1=((winsF w p.1 p.2.1,p.2.2.1,ridesR w p.2.1 p.2.1.length),0)∧rightC (winsF w p.1 p.2.1,p.2.2.1,ridesR w p.2.1 p.2.1.length)=true∧
  fitsG (winsF w p.1 p.2.1,p.2.2.1,ridesR w p.2.1 p.2.1.length) p.2.2.2=true∧keeps20 (winsF w p.1 p.2.1,p.2.2.1,ridesR w p.2.1 p.2.1.length) p.2.2.2=true:=by
 obtain ⟨_,h2,h3,h4,_⟩:=check_ok h
 obtain ⟨h5,h6⟩:=chain_ok h2
 have h7:=okC_fits h3
 have e:p.2.2.1=legsF w p.1 p.2.1:=by
  unfold okC at h3;rw[h6] at h3;rw[Bool.and_eq_true] at h3;exact of_decide_eq_true h3.1
 rw[h6] at h4 h7
 rw[e]
 exact ⟨h5,h6,h7.1,h7.2,h4⟩
theorem good_legs {w:DWorld} {p:DPlan} (h:checkP w p=0):p.2.2.1.length=p.2.1.length∧∀x∈p.2.2.1,legB x=true:=by
 obtain ⟨_,_,h3,_,_⟩:=good_has h;have h4:=rightC_iff.1 h3;refine ⟨?_,fun x hx=>decide_eq_true (h4.2.2.1 x hx)⟩;have h5:=h4.1.2.2.1;dsimp only[winsF] at h5;rw[List.length_map,List.length_range] at h5;omega
theorem good_worst {w:DWorld} {p:DPlan} (h:checkP w p=0):worstF (chainF w p.1 p.2.1).1 p.2.2.2=(playF p.2.2.2 (highsF p.2.2.1),0):=by
 obtain ⟨_,h2,_,h4,_⟩:=good_has h;rw[h2];unfold worstF;rw[if_pos h4]
theorem guard_ok {c:DChain} (h:(guardF c).2=0):rightC c=true∧(guardF c).1=gsF c c.1.length∧∀r∈c.2.2,lateR c r=false:=by
 unfold guardF at h⊢;by_cases h1:rightC c=false
 ·rw[if_pos h1] at h;cases h
 by_cases h2:c.2.2.any (lateR c)=true
 ·rw[if_neg h1,if_pos h2] at h;cases h
 by_cases h3:inTime c (playF (gsF c c.1.length) (highsF c.2.1))=false
 ·rw[if_neg h1,if_neg h2,if_pos h3] at h;cases h
 rw[if_neg h1,if_neg h2,if_neg h3];exact ⟨by rwa [Bool.not_eq_false] at h1,rfl,late_none h2⟩
theorem guard_keeps20 {c:DChain} (h:(guardF c).2=0):keeps20 c (guardF c).1=true:=by
 have hf:=guard_fits h;have hr:=(fitsG_iff.1 hf).1;have hn:=(rightC_iff.1 hr).1;have hc:∀k,k≤c.2.1.length→cutF c (guardF c).1 (lowsF c.2.1) (highsF c.2.1) k=true:=fun k hk=>by
  unfold cutF;rw[cut_run hf hk];exact guard_keeps h (cut_took hr hk)
 refine keeps20_iff.2 ⟨⟨hc 0 (Nat.zero_le _),hc _ (Nat.le_refl _)⟩,fun r hr'=>?_⟩;have h4:=(rightC_iff.1 hr).2.2.2 r hr';exact hc _ (by omega)
theorem made_ok {w:DWorld} {c:Int} {ss:List DStop} (h:(makeF w c ss).2=0):(chainF w c ss).2=0∧checkP w (makeF w c ss).1=0∧(makeF w c ss).1.1=c∧(makeF w c ss).1.2.1=ss∧(makeF w c ss).1.2.2.1=(chainF w c ss).1.2.1:=by
 rw[makeF_eq] at h⊢;by_cases h1:(begF w c ss).2≠0
 ·rw[if_pos h1] at h;exact absurd h h1
 by_cases h2:(guardF (begF w c ss).1).2≠0
 ·rw[if_neg h1,if_pos h2] at h;cases h
 by_cases h3:restsF w (begF w c ss).1 (guardF (begF w c ss).1).1=false
 ·rw[if_neg h1,if_neg h2,if_pos h3] at h;cases h
 rw[if_neg h1,if_neg h2,if_neg h3];have hb:=beg_ok (Decidable.not_not.1 h1);have hg:=Decidable.not_not.1 h2;obtain ⟨g1,g2,g3⟩:=guard_ok hg;refine ⟨by rw[←hb];exact Decidable.not_not.1 h1,?_,rfl,rfl,by rw[←hb]⟩;rw[checkP_eq];dsimp only;have ho:okC w (c,ss,(begF w c ss).1.2.1,(guardF (begF w c ss).1).1) (begF w c ss).1=true:=by
  unfold okC;dsimp only;rw[decide_eq_true rfl,g2,gsF_len,decide_eq_true rfl,g1,allIn_within.2 (gs_low g1 g3 _ (Nat.le_refl _))];rfl
 rw[if_neg h1,if_neg (by rw[ho];decide),if_neg (by rw[guard_keeps20 hg];decide),if_neg h3]
theorem stopsI_parts {ss:List DStop} {r:Int} {a b:Nat} (hab:a≤b) (hb:b≤ss.length):stopsI ss r a b=ss.take a++([(r,true)]++((ss.take b).drop a++([(r,false)]++ss.drop b))):=by
 have h:=outI_3 (r:=r) hab hb (ss.length-b) (by omega);rw[show b+(ss.length-b+1)=ss.length+1 by omega,List.take_of_length_le (i:=ss.length+1) (by omega),outI_all hab hb] at h;exact h
end T
end Go.Proofs.YtcnfmabhghhdnaaGreat
end
