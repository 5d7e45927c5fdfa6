/- Parts of the proof (put together by a program): definitions, lemmas, and the law; no condition. -/
import Derived.Test.YtjlofnjlhgbmoaaGreatV40
import Derived.Test.YtjlofnjlhgbmoaaGreatV43
import Derived.Test.YtjlofnjlhgbmoaaGreatV44
import Derived.Test.YtjlofnjlhgbmoaaGreatV6
set_option linter.unusedVariables false
set_option linter.unusedSimpArgs false
section
namespace Go.Proofs.YtjlofnjlhgbmoaaGreat
namespace T
theorem stopsI_parts {ss:List DStop} {r:Int} {a b:Nat} (hab:a≤b) (hb:b≤ss.length):stopsI ss r a b=ss.take a ++ ([(r,true)] ++ ((ss.take b).drop a ++ ([(r,false)] ++ ss.drop b))):=by
 have h:=outI_3 (r:=r) hab hb (ss.length - b) (by omega)
 rw [show b+(ss.length - b+1)=ss.length+1 by omega,List.take_of_length_le (i:=ss.length+1) (by omega),outI_all hab hb] at h
 exact h
theorem stopsI_length {ss:List DStop} {r:Int} {a b:Nat} (hab:a≤b) (hb:b≤ss.length):(stopsI ss r a b).length=ss.length+2:=by
 rw [stopsI_parts hab hb]
 simp only [List.length_append,List.length_take,List.length_drop,List.length_cons,List.length_nil]
 omega
def posI (a b i:Nat):Nat:=i+(if a≤i then 1 else 0)+if b≤i then 1 else 0
theorem stopsI_at {ss:List DStop} {r:Int} {a b:Nat} (hab:a≤b) (hb:b≤ss.length) (k:Nat) :
  (stopsI ss r a b).getD k dStop=if k < a then ss.getD k dStop else if k=a then (r,true) else if k≤b then ss.getD (k - 1) dStop else if k=b+1 then (r,false) else ss.getD (k - 2) dStop:=by
 rw [stopsI_parts hab hb]
 have l1:(ss.take a).length=a:=by rw [List.length_take];omega
 have l2:((ss.take b).drop a).length=b - a:=by rw [List.length_drop,List.length_take];omega
 simp only [List.getD]
 by_cases c1:k < a
 ·rw [if_pos c1,List.getElem?_append_left (by omega),List.getElem?_take_of_lt c1]
 rw [if_neg c1,List.getElem?_append_right (by omega),l1]
 by_cases c2:k=a
 ·rw [if_pos c2,c2,Nat.sub_self];rfl
 rw [if_neg c2,List.getElem?_append_right (by simp;omega),List.length_cons,List.length_nil]
 by_cases c3:k≤b
 ·rw [if_pos c3,List.getElem?_append_left (by omega),List.getElem?_drop,List.getElem?_take_of_lt (by omega),show a+(k - a - (0+1))=k - 1 by omega]
 rw [if_neg c3,List.getElem?_append_right (by omega),l2]
 by_cases c4:k=b+1
 ·rw [if_pos c4,show k - a - (0+1) - (b - a)=0 by omega];rfl
 rw [if_neg c4,List.getElem?_append_right (by simp;omega),List.length_cons,List.length_nil,List.getElem?_drop,show b+(k - a - (0+1) - (b - a) - (0+1))=k - 2 by omega]
theorem stopsI_pos {ss:List DStop} {r:Int} {a b:Nat} (hab:a≤b) (hb:b≤ss.length) (i:Nat):(stopsI ss r a b).getD (posI a b i) dStop=ss.getD i dStop:=by
 rw [stopsI_at hab hb]
 unfold posI
 by_cases c1:a≤i
 ·by_cases c2:b≤i
  ·rw [if_pos c1,if_pos c2,if_neg (by omega),if_neg (by omega),if_neg (by omega),if_neg (by omega),show i+1+1 - 2=i by omega]
  ·rw [if_pos c1,if_neg c2,if_neg (by omega),if_neg (by omega),if_pos (by omega),show i+1+0 - 1=i by omega]
 ·rw [if_neg c1,if_neg (show ¬ b≤i by omega),if_pos (show i+0+0 < a by omega)]
  rfl
theorem pos_or {a b:Nat} (hab:a≤b) (k:Nat):k=a∨k=b+1∨∃ i,k=posI a b i:=by
 unfold posI
 rcases Nat.lt_or_ge k a with c | c
 ·exact .inr (.inr ⟨k,by rw [if_neg (by omega),if_neg (by omega)];rfl⟩)
 by_cases c2:k=a
 ·exact .inl c2
 by_cases c3:k≤b
 ·exact .inr (.inr ⟨k - 1,by rw [if_pos (by omega),if_neg (by omega)];omega⟩)
 by_cases c4:k=b+1
 ·exact .inr (.inl c4)
 ·exact .inr (.inr ⟨k - 2,by rw [if_pos (by omega),if_pos (by omega)];omega⟩)
theorem posI_lt {a b i j:Nat}:posI a b i < posI a b j ↔ i < j:=by
 unfold posI
 constructor
 ·intro h
  refine Nat.lt_of_not_le fun q=>?_
  split at h <;> split at h <;> split at h <;> split at h <;> omega
 ·intro h
  split <;> split <;> split <;> split <;> omega
theorem posI_le (a b i:Nat):posI a b i≤i+2:=by unfold posI;split <;> split <;> omega
theorem named_no {ss:List DStop} {r:Int} (h:namedI ss r=false) {i:Nat} (hi:i < ss.length):(ss.getD i dStop).1≠r:=fun e=>by
 have:namedI ss r=true:=List.any_eq_true.2 ⟨_,getD_mem2 hi,decide_eq_true e⟩
 rw [h] at this;cases this
theorem stopsI_mem {ss:List DStop} {r:Int} {a b:Nat} (hab:a≤b) (hb:b≤ss.length) {i:Nat} (hi:i < ss.length) {x:DStop} (hx:x.1≠r):x ∈ (stopsI ss r a b).take (posI a b i) ↔ x ∈ ss.take i:=by
 have hl:=stopsI_length (r:=r) hab hb
 constructor
 ·intro h
  obtain ⟨m,h1,h2,h3⟩:=mem_take_lt h
  rcases pos_or hab m with e | e | ⟨m',e⟩
  ·rw [e,stopsI_at hab hb,if_neg (by omega),if_pos rfl] at h3
   exact absurd (by rw [← h3]) hx
  ·rw [e,stopsI_at hab hb,if_neg (by omega),if_neg (by omega),if_neg (by omega),if_pos rfl] at h3
   exact absurd (by rw [← h3]) hx
  ·rw [e,stopsI_pos hab hb] at h3
   rw [e,posI_lt] at h1
   rw [← h3]
   exact mem_take_of (by omega) h1
 ·intro h
  obtain ⟨m,h1,h2,h3⟩:=mem_take_lt h
  rw [← h3,← stopsI_pos (r:=r) hab hb m]
  have:=posI_le a b m
  exact mem_take_of (by omega) (posI_lt.2 h1)
theorem win_keep (w:DWorld) (c:Int) {ss:List DStop} {r:Int} {a b:Nat} (hab:a≤b) (hb:b≤ss.length) (hn:namedI ss r=false) {i:Nat} (hi:i < ss.length):winF w c (stopsI ss r a b) (posI a b i+1)=winF w c ss (i+1):=by
 rw [winF_s,winF_s,stopsI_pos hab hb]
 have h:=stopsI_mem (r:=r) hab hb hi (x:=((ss.getD i dStop).1,true)) (named_no hn hi)
 by_cases q:((ss.getD i dStop).1,true) ∈ ss.take i
 ·rw [if_pos q,if_pos (h.2 q)]
 ·rw [if_neg q,if_neg fun z=>q (h.1 z)]
theorem picks_len (w:DWorld) (ss:List DStop):(ridesR w ss ss.length).length=(ss.filter (·.2)).length:=by
 have e:ss=(List.range ss.length).map fun k=>ss.getD k dStop:=by
  refine List.ext_getElem (by simp) fun k h1 h2=>?_
  simp [List.getD,h1]
 have e2:(ss.filter (·.2)).length=(((List.range ss.length).map fun k=>ss.getD k dStop).filter (·.2)).length:=by rw [← e]
 rw [e2]
 unfold ridesR
 rw [List.length_map,List.filter_map,List.length_map]
 rfl
theorem rides_more (w:DWorld) {ss:List DStop} {r:Int} {a b:Nat} (hab:a≤b) (hb:b≤ss.length):(ridesR w (stopsI ss r a b) (stopsI ss r a b).length).length=(ridesR w ss ss.length).length+1:=by
 rw [picks_len,picks_len,stopsI_parts hab hb]
 have e:ss=ss.take a ++ ((ss.take b).drop a ++ ss.drop b):=by
  have h1:ss.take a=(ss.take b).take a:=by rw [List.take_take,Nat.min_eq_left hab]
  rw [← List.append_assoc,h1,List.take_append_drop,List.take_append_drop]
 have e2:(ss.filter (·.2)).length=((ss.take a ++ ((ss.take b).drop a ++ ss.drop b)).filter (·.2)).length:=by rw [← e]
 rw [e2]
 simp only [List.filter_append,List.length_append,List.filter_cons,List.filter_nil,if_true,Bool.false_eq_true,if_false,List.length_cons,List.length_nil]
 omega
end T
end Go.Proofs.YtjlofnjlhgbmoaaGreat
end
