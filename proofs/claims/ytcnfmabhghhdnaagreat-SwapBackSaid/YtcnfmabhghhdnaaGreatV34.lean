/- Parts of the proof (put together by a program): definitions, lemmas, and the law; no condition. -/
import Derived.Test.YtcnfmabhghhdnaaGreatV33
import Derived.Test.YtcnfmabhghhdnaaGreatV6
set_option linter.unusedVariables false
set_option linter.unusedSimpArgs false
section
namespace Go.Proofs.YtcnfmabhghhdnaaGreat
namespace T
abbrev DPlace:=Int × Int × Int × Int
@[reducible] def dPlace:DPlace:=(0,0,0,0)
def stopsI (ss:List DStop) (r a b:Int):List DStop:=if a < 0∨b < a∨(ss.length:Int) < b then [] else insF (insF ss b.toNat [(r,false)]) a.toNat [(r,true)]
def isBest (L:List DPlace) (P:Nat→Prop) (x:Int):Prop :=
 (x = -1∧∀ i,P i→(L.getD i dPlace).2.2.1≠0)∨∃ k:Nat,x=k∧P k∧(L.getD k dPlace).2.2.1=0∧∀ i,P i→(L.getD i dPlace).2.2.1=0→(L.getD k dPlace).2.2.2≤(L.getD i dPlace).2.2.2∧(i < k→(L.getD k dPlace).2.2.2 < (L.getD i dPlace).2.2.2)
theorem isBest.same {L:List DPlace} {P:Nat→Prop} {x y:Int} (h:isBest L P x) (h':isBest L P y):x=y:=by
 rcases h with ⟨rfl,h⟩ | ⟨k,rfl,hk,h0,h⟩
 ·rcases h' with ⟨rfl,h'⟩ | ⟨k',rfl,hk',h0',h'⟩
  ·rfl
  ·exact absurd h0' (h k' hk')
 ·rcases h' with ⟨rfl,h'⟩ | ⟨k',rfl,hk',h0',h'⟩
  ·exact absurd h0 (h' k hk)
  ·have a:=h k' hk' h0'
   have b:=h' k hk h0
   rcases Nat.lt_trichotomy k k' with c | c | c
   ·have:=b.2 c;omega
   ·rw [c]
   ·have:=a.2 c;omega
theorem insF_len {α:Type} (l:List α) {k:Nat} (hk:k≤l.length) (x:α):(insF l k [x]).length=l.length+1:=by
 unfold insF
 simp only [List.length_append,List.length_take,List.length_drop,List.length_cons,List.length_nil]
 omega
theorem stopsI_len (ss:List DStop) (r a b:Int):(stopsI ss r a b).length≤ss.length+2:=by
 unfold stopsI
 split
 ·exact Nat.zero_le _
 ·rename_i c
  rw [insF_len _ (by rw [insF_len _ (by omega)];omega),insF_len _ (by omega)]
  exact Nat.le_refl _
end T
end Go.Proofs.YtcnfmabhghhdnaaGreat
end
section
namespace Go.Proofs.YtcnfmabhghhdnaaGreat
namespace T
def outI (ss:List DStop) (r:Int) (a b:Nat):Nat→List DStop
 | 0=>[]
 | j+1=>outI ss r a b j ++ ((if j=a then [(r,true)] else []) ++ ((if j=b then [(r,false)] else []) ++ if j < ss.length then [ss.getD j dStop] else []))
theorem take_s {ss:List DStop} {j:Nat} (h:j < ss.length):ss.take j ++ [ss.getD j dStop]=ss.take (j+1):=by
 rw [List.take_succ_eq_append_getElem h,List.getD_eq_getElem?_getD,List.getElem?_eq_getElem h];rfl
theorem outI_1 {ss:List DStop} {r:Int} {a b:Nat} (hab:a≤b) (hb:b≤ss.length):∀ j,j≤a→outI ss r a b j=ss.take j
 | 0,_=>rfl
 | j+1,h=>by
  unfold outI
  rw [outI_1 hab hb j (by omega),if_neg (by omega),if_neg (by omega),if_pos (by omega),List.nil_append,List.nil_append,take_s (by omega)]
theorem mid_s {ss:List DStop} {a j:Nat} (h:j < ss.length) (ha:a≤j):(ss.take j).drop a ++ [ss.getD j dStop]=(ss.take (j+1)).drop a:=by
 rw [← take_s h,List.drop_append_of_le_length (by rw [List.length_take];omega)]
theorem outI_2 {ss:List DStop} {r:Int} {a b:Nat} (hab:a≤b) (hb:b≤ss.length):∀ d,a+(d+1)≤b→outI ss r a b (a+(d+1))=ss.take a ++ ([(r,true)] ++ (ss.take (a+(d+1))).drop a)
 | 0,h=>by
  show outI ss r a b (a+1)=_
  unfold outI
  rw [outI_1 hab hb a (Nat.le_refl _),if_pos rfl,if_neg (by omega),if_pos (by omega),List.nil_append,← mid_s (a:=a) (j:=a) (by omega) (Nat.le_refl _),List.drop_take,Nat.sub_self,List.take_zero,List.nil_append]
 | d+1,h=>by
  show outI ss r a b (a+(d+1)+1)=_
  unfold outI
  rw [outI_2 hab hb d (by omega),if_neg (by omega),if_neg (by omega),if_pos (by omega),List.nil_append,List.nil_append,show a+(d+1+1)=a+(d+1)+1 by omega,← mid_s (a:=a) (j:=a+(d+1)) (by omega) (by omega)]
  simp only [List.append_assoc]
theorem outI_b {ss:List DStop} {r:Int} {a b:Nat} (hab:a≤b) (hb:b≤ss.length):outI ss r a b b ++ (if b=a then [(r,true)] else [])=ss.take a ++ ([(r,true)] ++ (ss.take b).drop a):=by
 rcases Nat.lt_or_ge a b with c | c
 ·have:=outI_2 (r:=r) hab hb (b - a - 1) (by omega)
  rw [show a+(b - a - 1+1)=b by omega] at this
  rw [this,if_neg (by omega),List.append_nil]
 ·obtain rfl:a=b:=by omega
  rw [outI_1 hab hb a (Nat.le_refl _),if_pos rfl,List.drop_take,Nat.sub_self,List.take_zero,List.append_nil]
theorem outI_3 {ss:List DStop} {r:Int} {a b:Nat} (hab:a≤b) (hb:b≤ss.length):∀ d,b+(d+1)≤ss.length+1→outI ss r a b (b+(d+1))=ss.take a ++ ([(r,true)] ++ ((ss.take b).drop a ++ ([(r,false)] ++ (ss.take (b+(d+1))).drop b)))
 | 0,h=>by
  show outI ss r a b (b+1)=_
  unfold outI
  rw [← List.append_assoc,outI_b hab hb,if_pos rfl]
  by_cases c:b < ss.length
  ·rw [if_pos c,← mid_s (a:=b) (j:=b) c (Nat.le_refl _),List.drop_take,List.drop_take,Nat.sub_self,List.take_zero,List.nil_append]
   simp only [List.append_assoc]
  ·rw [if_neg c,List.drop_of_length_le (i:=b) (by rw [List.length_take];omega)]
   simp only [List.append_assoc]
 | d+1,h=>by
  show outI ss r a b (b+(d+1)+1)=_
  unfold outI
  rw [outI_3 hab hb d (by omega),if_neg (by omega),if_neg (by omega),List.nil_append,List.nil_append,show b+(d+1+1)=b+(d+1)+1 by omega]
  by_cases c:b+(d+1) < ss.length
  ·rw [if_pos c,← mid_s (a:=b) (j:=b+(d+1)) c (by omega)]
   simp only [List.append_assoc]
  ·rw [if_neg c,List.append_nil,List.take_of_length_le (i:=b+(d+1)) (by omega),List.take_of_length_le (i:=b+(d+1)+1) (by omega)]
theorem outI_all {ss:List DStop} {r:Int} {a b:Nat} (hab:a≤b) (hb:b≤ss.length):outI ss r a b (ss.length+1)=stopsI ss r a b:=by
 have h:=outI_3 (r:=r) hab hb (ss.length - b) (by omega)
 rw [show b+(ss.length - b+1)=ss.length+1 by omega,List.take_of_length_le (i:=ss.length+1) (by omega)] at h
 rw [h]
 unfold stopsI
 rw [if_neg (by omega),Int.toNat_natCast,Int.toNat_natCast]
 unfold insF
 have hl:(ss.take b).length=b:=by rw [List.length_take];omega
 rw [List.append_assoc (ss.take b) [(r,false)] (ss.drop b),List.take_append_of_le_length (by omega),List.take_take,Nat.min_eq_left hab,List.drop_append_of_le_length (by omega)]
 simp only [List.append_assoc]
end T
end Go.Proofs.YtcnfmabhghhdnaaGreat
end
