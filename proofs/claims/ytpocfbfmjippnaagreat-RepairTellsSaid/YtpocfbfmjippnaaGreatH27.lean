/- Parts of the proof of the law; no condition. -/
import Derived.Test.YtpocfbfmjippnaaGreatH26
set_option linter.all false
section
namespace Go.Proofs.YtpocfbfmjippnaaGreat
namespace T
abbrev DPlace:=Int×Int×Int×Int
@[reducible] def dPlace:DPlace:=(0,0,0,0)
def stopsI (ss:List DStop) (r a b:Int):List DStop:=if a<0∨b<a∨(ss.length:Int)<b then [] else insF (insF ss b.toNat [(r,false)]) a.toNat [(r,true)]
def lineI (w:DWorld) (p:DPlan) (r:Int) (a b:Nat):DPlace:=((a:Int),(b:Int),(makeF w p.1 (stopsI p.2.1 r a b)).2,if (makeF w p.1 (stopsI p.2.1 r a b)).2=0 then (endP w (makeF w p.1 (stopsI p.2.1 r a b)).1).1 else 0)
def rowI (w:DWorld) (p:DPlan) (r:Int) (a:Nat):List DPlace:=(List.range (p.2.1.length+1-a)).map fun i=>lineI w p r a (a+i)
def rowsI (w:DWorld) (p:DPlan) (r:Int):Nat→List DPlace
 |0=>[]
 |j+1=>rowsI w p r j++rowI w p r j
def linesI (w:DWorld) (p:DPlan) (r:Int):List DPlace:=rowsI w p r (p.2.1.length+1)
def offI (n:Nat):Nat→Nat
 |0=>0
 |j+1=>offI n j+(n+1-j)
theorem rowI_len (w:DWorld) (p:DPlan) (r:Int) (a:Nat):(rowI w p r a).length=p.2.1.length+1-a:=by unfold rowI;rw[List.length_map,List.length_range]
theorem rowsI_len (w:DWorld) (p:DPlan) (r:Int):∀j,(rowsI w p r j).length=offI p.2.1.length j
 |0=>rfl
 |j+1=>by unfold rowsI offI;rw[List.length_append,rowsI_len w p r j,rowI_len]
theorem rowsI_pre (w:DWorld) (p:DPlan) (r:Int) (j:Nat):∀d,∃R,rowsI w p r (j+d)=rowsI w p r j++R
 |0=>⟨[],by rw[List.append_nil];rfl⟩
 |d+1=>by
  obtain ⟨R,h⟩:=rowsI_pre w p r j d;exact ⟨R++rowI w p r (j+d),by rw[←List.append_assoc,←h];rfl⟩
theorem lines_at (w:DWorld) (p:DPlan) (r:Int) {j i:Nat} (hj:j≤p.2.1.length) (hi:i<p.2.1.length+1-j):
  (linesI w p r).take (offI p.2.1.length j+i)=rowsI w p r j++(rowI w p r j).take i∧(linesI w p r).getD (offI p.2.1.length j+i) dPlace=lineI w p r j (j+i)∧offI p.2.1.length j+i<(linesI w p r).length:=by
 obtain ⟨R,h⟩:=rowsI_pre w p r (j+1) (p.2.1.length-j)
 have e:linesI w p r=rowsI w p r j++(rowI w p r j++R):=by
  unfold linesI;rw[show p.2.1.length+1=j+1+(p.2.1.length-j) by omega,h,←List.append_assoc];rfl
 have hl:=rowsI_len w p r j
 have hr:=rowI_len w p r j
 refine ⟨?_,?_,?_⟩
 ·rw[e,List.take_append,hl,List.take_of_length_le (by omega),show offI p.2.1.length j+i-offI p.2.1.length j=i by omega,List.take_append,show i-(rowI w p r j).length=0 by omega,List.take_zero,List.append_nil]
 ·have hi':i<(rowI w p r j).length:=by omega
  rw[e,List.getD_eq_getElem?_getD,List.getElem?_append_right (by omega),hl,show offI p.2.1.length j+i-offI p.2.1.length j=i by omega,List.getElem?_append_left hi',List.getElem?_eq_getElem hi']
  simp[rowI]
 ·rw[e,List.length_append,List.length_append];omega
theorem lines_len (w:DWorld) (p:DPlan) (r:Int):(linesI w p r).length=offI p.2.1.length (p.2.1.length+1):=rowsI_len _ _ _ _
def atN (L:List DPlace):Nat→Int
 |0=>-1
 |k+1=>if (L.getD k dPlace).2.2.1=0∧(atN L k<0∨(L.getD k dPlace).2.2.2<(L.getD (atN L k).toNat dPlace).2.2.2) then (k:Int) else atN L k
def btN (L:List DPlace):Nat→Int
 |0=>-1
 |k+1=>if (L.getD (L.length-1-k) dPlace).2.2.1=0∧(btN L k<0∨(L.getD (L.length-1-k) dPlace).2.2.2≤(L.getD (btN L k).toNat dPlace).2.2.2) then ((L.length-1-k:Nat):Int) else btN L k
def isBest (L:List DPlace) (P:Nat→Prop) (x:Int):Prop:=
 (x= -1∧∀i,P i→(L.getD i dPlace).2.2.1≠0)∨∃k:Nat,x=k∧P k∧(L.getD k dPlace).2.2.1=0∧∀i,P i→(L.getD i dPlace).2.2.1=0→(L.getD k dPlace).2.2.2≤(L.getD i dPlace).2.2.2∧(i<k→(L.getD k dPlace).2.2.2<(L.getD i dPlace).2.2.2)
theorem isBest.same {L:List DPlace} {P:Nat→Prop} {x y:Int} (h:isBest L P x) (h':isBest L P y):x=y:=by
 rcases h with ⟨rfl,h⟩|⟨k,rfl,hk,h0,h⟩
 ·rcases h' with ⟨rfl,h'⟩|⟨k',rfl,hk',h0',h'⟩
  ·rfl
  ·exact absurd h0' (h k' hk')
 ·rcases h' with ⟨rfl,h'⟩|⟨k',rfl,hk',h0',h'⟩
  ·exact absurd h0 (h' k hk)
  ·have a:=h k' hk' h0';have b:=h' k hk h0;rcases Nat.lt_trichotomy k k' with c|c|c
   ·have:=b.2 c;omega
   ·rw[c]
   ·have:=a.2 c;omega
theorem atN_best (L:List DPlace):∀k,isBest L (fun i=>i<k) (atN L k)
 |0=>.inl ⟨rfl,fun i hi=>by omega⟩
 |k+1=>by
  have ih:=atN_best L k;unfold atN;split
  ·rename_i c;refine .inr ⟨k,rfl,by omega,c.1,fun i hi h0=>?_⟩;rcases Nat.lt_or_ge i k with q|q
   ·rcases ih with ⟨e,h⟩|⟨m,e,hm,hm0,h⟩
    ·exact absurd h0 (h i q)
    ·have h1:=h i q h0;rw[e] at c;rcases c.2 with c2|c2
     ·omega
     ·rw[Int.toNat_natCast] at c2;omega
   ·obtain rfl:i=k:=by omega
    exact ⟨Int.le_refl _,fun q=>by omega⟩
  ·rename_i c;rcases ih with ⟨e,h⟩|⟨m,e,hm,hm0,h⟩
   ·refine .inl ⟨e,fun i hi h0=>?_⟩;rcases Nat.lt_or_ge i k with q|q
    ·exact h i q h0
    ·obtain rfl:i=k:=by omega
     exact c ⟨h0,.inl (by omega)⟩
   ·refine .inr ⟨m,e,by omega,hm0,fun i hi h0=>?_⟩;rcases Nat.lt_or_ge i k with q|q
    ·exact h i q h0
    ·obtain rfl:i=k:=by omega
     refine ⟨?_,fun q=>by omega⟩;refine Int.not_lt.1 fun q=>c ⟨h0,.inr ?_⟩;rw[e,Int.toNat_natCast];exact q
theorem btN_best (L:List DPlace):∀k,k≤L.length→isBest L (fun i=>L.length-k≤i∧i<L.length) (btN L k)
 |0,_=>.inl ⟨rfl,fun i hi=>by omega⟩
 |k+1,hk=>by
  have ih:=btN_best L k (by omega);unfold btN;split
  ·rename_i c;refine .inr ⟨L.length-1-k,rfl,⟨by omega,by omega⟩,c.1,fun i hi h0=>?_⟩;rcases Nat.lt_or_ge (L.length-1-k) i with q|q
   ·rcases ih with ⟨e,h⟩|⟨m,e,hm,hm0,h⟩
    ·exact absurd h0 (h i ⟨by omega,hi.2⟩)
    ·have h1:=h i ⟨by omega,hi.2⟩ h0;rw[e] at c;rcases c.2 with c2|c2
     ·omega
     ·rw[Int.toNat_natCast] at c2;exact ⟨by omega,fun q=>by omega⟩
   ·obtain rfl:i=L.length-1-k:=by omega
    exact ⟨Int.le_refl _,fun q=>by omega⟩
  ·rename_i c;rcases ih with ⟨e,h⟩|⟨m,e,hm,hm0,h⟩
   ·refine .inl ⟨e,fun i hi h0=>?_⟩;rcases Nat.lt_or_ge (L.length-1-k) i with q|q
    ·exact h i ⟨by omega,hi.2⟩ h0
    ·obtain rfl:i=L.length-1-k:=by omega
     exact c ⟨h0,.inl (by omega)⟩
   ·refine .inr ⟨m,e,⟨by omega,hm.2⟩,hm0,fun i hi h0=>?_⟩;rcases Nat.lt_or_ge (L.length-1-k) i with q|q
    ·exact h i ⟨by omega,hi.2⟩ h0
    ·obtain rfl:i=L.length-1-k:=by omega
     have c1:(L.getD m dPlace).2.2.2<(L.getD (L.length-1-k) dPlace).2.2.2:=by
      refine Int.not_le.1 fun q=>c ⟨h0,.inr ?_⟩;rw[e,Int.toNat_natCast];exact q
     exact ⟨by omega,fun _=>c1⟩
theorem bt_at (L:List DPlace):btN L L.length=atN L L.length:=by
 have h:=btN_best L L.length (Nat.le_refl _);refine h.same ?_;have h2:=atN_best L L.length;have e:(fun i=>L.length-L.length≤i∧i<L.length)=fun i=>i<L.length:=by
  funext i;exact propext ⟨fun q=>q.2,fun q=>⟨by omega,q⟩⟩
 rw[e];exact h2
theorem atN_rng (L:List DPlace) (k:Nat):-1≤atN L k∧atN L k<k:=by
 rcases atN_best L k with ⟨e,_⟩|⟨m,e,hm,_⟩<;>omega
theorem btN_rng (L:List DPlace) {k:Nat} (hk:k≤L.length):-1≤btN L k∧btN L k<L.length:=by
 rcases btN_best L k hk with ⟨e,_⟩|⟨m,e,hm,_⟩<;>omega
def planI (w:DWorld) (p:DPlan) (r:Int) (x:DPlace):DPlan:=(makeF w p.1 (stopsI p.2.1 r x.1 x.2.1)).1
def bestN (w:DWorld) (p:DPlan) (r:Int) (L:List DPlace) (k:Nat):DPlan:=if atN L k<0 then noPlan else planI w p r (L.getD (atN L k).toNat dPlace)
def namedI (ss:List DStop) (r:Int):Bool:=ss.any fun s=>decide (s.1=r)
def errI (w:DWorld) (p:DPlan) (r:Int):Int:=
 if rightP w=false∨checkP w p≠0∨r<0∨(w.2.2.2.1.length:Int)≤r∨namedI p.2.1 r=true then 1 else 0
def bestF (w:DWorld) (p:DPlan) (r:Int):DPlan×Int×Int×List DPlace×Int:=
 if errI w p r≠0 then (noPlan,0,0,[],errI w p r)
 else if atN (linesI w p r) (linesI w p r).length<0 then (noPlan,0,0,linesI w p r,4)
 else (planI w p r ((linesI w p r).getD (atN (linesI w p r) (linesI w p r).length).toNat dPlace),((linesI w p r).getD (atN (linesI w p r) (linesI w p r).length).toNat dPlace).1,((linesI w p r).getD (atN (linesI w p r) (linesI w p r).length).toNat dPlace).2.1,linesI w p r,0)
theorem insF_len {α:Type} (l:List α) {k:Nat} (hk:k≤l.length) (x:α):(insF l k [x]).length=l.length+1:=by
 unfold insF;simp only[List.length_append,List.length_take,List.length_drop,List.length_cons,List.length_nil];omega
theorem stopsI_len (ss:List DStop) (r a b:Int):(stopsI ss r a b).length≤ss.length+2:=by
 unfold stopsI;split
 ·exact Nat.zero_le _
 ·rename_i c;rw[insF_len _ (by rw[insF_len _ (by omega)];omega),insF_len _ (by omega)];exact Nat.le_refl _
def outI (ss:List DStop) (r:Int) (a b:Nat):Nat→List DStop
 |0=>[]
 |j+1=>outI ss r a b j++((if j=a then [(r,true)] else [])++((if j=b then [(r,false)] else [])++if j<ss.length then [ss.getD j dStop] else []))
theorem take_s {ss:List DStop} {j:Nat} (h:j<ss.length):ss.take j++[ss.getD j dStop]=ss.take (j+1):=by
 rw[List.take_succ_eq_append_getElem h,List.getD_eq_getElem?_getD,List.getElem?_eq_getElem h];rfl
theorem outI_1 {ss:List DStop} {r:Int} {a b:Nat} (hab:a≤b) (hb:b≤ss.length):∀j,j≤a→outI ss r a b j=ss.take j
 |0,_=>rfl
 |j+1,h=>by
  unfold outI;rw[outI_1 hab hb j (by omega),if_neg (by omega),if_neg (by omega),if_pos (by omega),List.nil_append,List.nil_append,take_s (by omega)]
theorem mid_s {ss:List DStop} {a j:Nat} (h:j<ss.length) (ha:a≤j):(ss.take j).drop a++[ss.getD j dStop]=(ss.take (j+1)).drop a:=by
 rw[←take_s h,List.drop_append_of_le_length (by rw[List.length_take];omega)]
theorem outI_2 {ss:List DStop} {r:Int} {a b:Nat} (hab:a≤b) (hb:b≤ss.length):∀d,a+(d+1)≤b→outI ss r a b (a+(d+1))=ss.take a++([(r,true)]++(ss.take (a+(d+1))).drop a)
 |0,h=>by
  show outI ss r a b (a+1)=_;unfold outI;rw[outI_1 hab hb a (Nat.le_refl _),if_pos rfl,if_neg (by omega),if_pos (by omega),List.nil_append,←mid_s (a:=a) (j:=a) (by omega) (Nat.le_refl _),List.drop_take,Nat.sub_self,List.take_zero,List.nil_append]
 |d+1,h=>by
  show outI ss r a b (a+(d+1)+1)=_;unfold outI;rw[outI_2 hab hb d (by omega),if_neg (by omega),if_neg (by omega),if_pos (by omega),List.nil_append,List.nil_append,show a+(d+1+1)=a+(d+1)+1 by omega,←mid_s (a:=a) (j:=a+(d+1)) (by omega) (by omega)];simp only[List.append_assoc]
theorem outI_b {ss:List DStop} {r:Int} {a b:Nat} (hab:a≤b) (hb:b≤ss.length):outI ss r a b b++(if b=a then [(r,true)] else [])=ss.take a++([(r,true)]++(ss.take b).drop a):=by
 rcases Nat.lt_or_ge a b with c|c
 ·have:=outI_2 (r:=r) hab hb (b-a-1) (by omega);rw[show a+(b-a-1+1)=b by omega] at this;rw[this,if_neg (by omega),List.append_nil]
 ·obtain rfl:a=b:=by omega
  rw[outI_1 hab hb a (Nat.le_refl _),if_pos rfl,List.drop_take,Nat.sub_self,List.take_zero,List.append_nil]
theorem outI_3 {ss:List DStop} {r:Int} {a b:Nat} (hab:a≤b) (hb:b≤ss.length):∀d,b+(d+1)≤ss.length+1→outI ss r a b (b+(d+1))=ss.take a++([(r,true)]++((ss.take b).drop a++([(r,false)]++(ss.take (b+(d+1))).drop b)))
 |0,h=>by
  show outI ss r a b (b+1)=_;unfold outI;rw[←List.append_assoc,outI_b hab hb,if_pos rfl];by_cases c:b<ss.length
  ·rw[if_pos c,←mid_s (a:=b) (j:=b) c (Nat.le_refl _),List.drop_take,List.drop_take,Nat.sub_self,List.take_zero,List.nil_append];simp only[List.append_assoc]
  ·rw[if_neg c,List.drop_of_length_le (i:=b) (by rw[List.length_take];omega)];simp only[List.append_assoc]
 |d+1,h=>by
  show outI ss r a b (b+(d+1)+1)=_;unfold outI;rw[outI_3 hab hb d (by omega),if_neg (by omega),if_neg (by omega),List.nil_append,List.nil_append,show b+(d+1+1)=b+(d+1)+1 by omega];by_cases c:b+(d+1)<ss.length
  ·rw[if_pos c,←mid_s (a:=b) (j:=b+(d+1)) c (by omega)];simp only[List.append_assoc]
  ·rw[if_neg c,List.append_nil,List.take_of_length_le (i:=b+(d+1)) (by omega),List.take_of_length_le (i:=b+(d+1)+1) (by omega)]
theorem outI_all {ss:List DStop} {r:Int} {a b:Nat} (hab:a≤b) (hb:b≤ss.length):outI ss r a b (ss.length+1)=stopsI ss r a b:=by
 have h:=outI_3 (r:=r) hab hb (ss.length-b) (by omega);rw[show b+(ss.length-b+1)=ss.length+1 by omega,List.take_of_length_le (i:=ss.length+1) (by omega)] at h;rw[h];unfold stopsI;rw[if_neg (by omega),Int.toNat_natCast,Int.toNat_natCast];unfold insF;have hl:(ss.take b).length=b:=by rw[List.length_take];omega
 rw[List.append_assoc (ss.take b) [(r,false)] (ss.drop b),List.take_append_of_le_length (by omega),List.take_take,Nat.min_eq_left hab,List.drop_append_of_le_length (by omega)];simp only[List.append_assoc]
theorem outI_len {ss:List DStop} {r:Int} {a b:Nat}:∀j,(outI ss r a b j).length≤3*j
 |0=>Nat.zero_le _
 |j+1=>by
  have:=outI_len (ss:=ss) (r:=r) (a:=a) (b:=b) j;unfold outI;simp only[List.length_append];have h1:(if j=a then [(r,true)] else []:List DStop).length≤1:=by split<;>simp
  have h2:(if j=b then [(r,false)] else []:List DStop).length≤1:=by split<;>simp
  have h3:(if j<ss.length then [ss.getD j dStop] else []).length≤1:=by split<;>simp
  omega
end T
end Go.Proofs.YtpocfbfmjippnaaGreat
end
