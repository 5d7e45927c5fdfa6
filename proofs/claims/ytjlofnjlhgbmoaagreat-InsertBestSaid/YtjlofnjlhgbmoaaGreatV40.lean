/- Parts of the proof (put together by a program): definitions, lemmas, and the law; no condition. -/
import Derived.Test.YtjlofnjlhgbmoaaGreatV37
import Derived.Test.YtjlofnjlhgbmoaaGreatV6
set_option linter.unusedVariables false
set_option linter.unusedSimpArgs false
section
namespace Go.Proofs.YtjlofnjlhgbmoaaGreat
namespace T
def outI (ss:List DStop) (r:Int) (a b:Nat):Nat→List DStop
 | 0=>[]
 | j+1=>outI ss r a b j ++ ((if j=a then [(r,true)] else []) ++ ((if j=b then [(r,false)] else []) ++ if j < ss.length then [ss.getD j dStop] else []))
theorem take_s {ss:List DStop} {j:Nat} (h:j < ss.length):ss.take j ++ [ss.getD j dStop]=ss.take (j+1):=by
 rw [List.take_succ_eq_append_getElem h,List.getD_eq_getElem?_getD,List.getElem?_eq_getElem h];rfl
theorem outI_1 {ss:List DStop} {r:Int} {a b:Nat} (hab:a≤b) (hb:b≤ss.length):∀ j,j≤a→outI ss r a b j=ss.take j
 | 0,_=>rfl
 | j+1,h=>by
  unfold outI
  rw [outI_1 hab hb j (by omega),if_neg (by omega),if_neg (by omega),if_pos (by omega),List.nil_append,List.nil_append,take_s (by omega)]
theorem mid_s {ss:List DStop} {a j:Nat} (h:j < ss.length) (ha:a≤j):(ss.take j).drop a ++ [ss.getD j dStop]=(ss.take (j+1)).drop a:=by
 rw [← take_s h,List.drop_append_of_le_length (by rw [List.length_take];omega)]
theorem outI_2 {ss:List DStop} {r:Int} {a b:Nat} (hab:a≤b) (hb:b≤ss.length):∀ d,a+(d+1)≤b→outI ss r a b (a+(d+1))=ss.take a ++ ([(r,true)] ++ (ss.take (a+(d+1))).drop a)
 | 0,h=>by
  show outI ss r a b (a+1)=_
  unfold outI
  rw [outI_1 hab hb a (Nat.le_refl _),if_pos rfl,if_neg (by omega),if_pos (by omega),List.nil_append,← mid_s (a:=a) (j:=a) (by omega) (Nat.le_refl _),List.drop_take,Nat.sub_self,List.take_zero,List.nil_append]
 | d+1,h=>by
  show outI ss r a b (a+(d+1)+1)=_
  unfold outI
  rw [outI_2 hab hb d (by omega),if_neg (by omega),if_neg (by omega),if_pos (by omega),List.nil_append,List.nil_append,show a+(d+1+1)=a+(d+1)+1 by omega,← mid_s (a:=a) (j:=a+(d+1)) (by omega) (by omega)]
  simp only [List.append_assoc]
theorem outI_b {ss:List DStop} {r:Int} {a b:Nat} (hab:a≤b) (hb:b≤ss.length):outI ss r a b b ++ (if b=a then [(r,true)] else [])=ss.take a ++ ([(r,true)] ++ (ss.take b).drop a):=by
 rcases Nat.lt_or_ge a b with c | c
 ·have:=outI_2 (r:=r) hab hb (b - a - 1) (by omega)
  rw [show a+(b - a - 1+1)=b by omega] at this
  rw [this,if_neg (by omega),List.append_nil]
 ·obtain rfl:a=b:=by omega
  rw [outI_1 hab hb a (Nat.le_refl _),if_pos rfl,List.drop_take,Nat.sub_self,List.take_zero,List.append_nil]
theorem outI_3 {ss:List DStop} {r:Int} {a b:Nat} (hab:a≤b) (hb:b≤ss.length):∀ d,b+(d+1)≤ss.length+1→outI ss r a b (b+(d+1))=ss.take a ++ ([(r,true)] ++ ((ss.take b).drop a ++ ([(r,false)] ++ (ss.take (b+(d+1))).drop b)))
 | 0,h=>by
  show outI ss r a b (b+1)=_
  unfold outI
  rw [← List.append_assoc,outI_b hab hb,if_pos rfl]
  by_cases c:b < ss.length
  ·rw [if_pos c,← mid_s (a:=b) (j:=b) c (Nat.le_refl _),List.drop_take,List.drop_take,Nat.sub_self,List.take_zero,List.nil_append]
   simp only [List.append_assoc]
  ·rw [if_neg c,List.drop_of_length_le (i:=b) (by rw [List.length_take];omega)]
   simp only [List.append_assoc]
 | d+1,h=>by
  show outI ss r a b (b+(d+1)+1)=_
  unfold outI
  rw [outI_3 hab hb d (by omega),if_neg (by omega),if_neg (by omega),List.nil_append,List.nil_append,show b+(d+1+1)=b+(d+1)+1 by omega]
  by_cases c:b+(d+1) < ss.length
  ·rw [if_pos c,← mid_s (a:=b) (j:=b+(d+1)) c (by omega)]
   simp only [List.append_assoc]
  ·rw [if_neg c,List.append_nil,List.take_of_length_le (i:=b+(d+1)) (by omega),List.take_of_length_le (i:=b+(d+1)+1) (by omega)]
theorem outI_all {ss:List DStop} {r:Int} {a b:Nat} (hab:a≤b) (hb:b≤ss.length):outI ss r a b (ss.length+1)=stopsI ss r a b:=by
 have h:=outI_3 (r:=r) hab hb (ss.length - b) (by omega)
 rw [show b+(ss.length - b+1)=ss.length+1 by omega,List.take_of_length_le (i:=ss.length+1) (by omega)] at h
 rw [h]
 unfold stopsI
 rw [if_neg (by omega),Int.toNat_natCast,Int.toNat_natCast]
 unfold insF
 have hl:(ss.take b).length=b:=by rw [List.length_take];omega
 rw [List.append_assoc (ss.take b) [(r,false)] (ss.drop b),List.take_append_of_le_length (by omega),List.take_take,Nat.min_eq_left hab,List.drop_append_of_le_length (by omega)]
 simp only [List.append_assoc]
theorem outI_len {ss:List DStop} {r:Int} {a b:Nat}:∀ j,(outI ss r a b j).length≤3 * j
 | 0=>Nat.zero_le _
 | j+1=>by
  have:=outI_len (ss:=ss) (r:=r) (a:=a) (b:=b) j
  unfold outI
  simp only [List.length_append]
  have h1:(if j=a then [(r,true)] else []:List DStop).length≤1:=by split <;> simp
  have h2:(if j=b then [(r,false)] else []:List DStop).length≤1:=by split <;> simp
  have h3:(if j < ss.length then [ss.getD j dStop] else []).length≤1:=by split <;> simp
  omega
end T
end Go.Proofs.YtjlofnjlhgbmoaaGreat
end
