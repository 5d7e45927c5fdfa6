/- Parts of the proof of the law; no condition. -/
import Derived.Test.YtpocfbfmjippnaaGreatG30
set_option linter.all false
section
namespace Go.Proofs.YtpocfbfmjippnaaGreat
namespace T
theorem getD_app {α:Type} {d:α} {l m:List α} {i:Nat} (h:i<l.length):(l++m).getD i d=l.getD i d:=by
 simp only[List.getD];rw[List.getElem?_append_left h]
theorem lost_app:∀a b:List Int,lostN (a++b)=lostN a+lostN b
 |[],b=>by rw[List.nil_append];show _=0+_;omega
 |x::a,b=>by
  rw[List.cons_append];show lostN (a++b)+(if x<0 then 1 else 0)=lostN a+(if x<0 then 1 else 0)+lostN b;rw[lost_app a b];omega
theorem lostF_len {o b:List Int} (h:b.length=o.length):((lostF o b).length:Int)=lostN b:=by
 have key:∀n,n≤b.length→(((List.range n).filter fun i=>decide (b.getD i 0<0)).length:Int)=lostN (b.take n):=by
  intro n;induction n with
  |zero=>intro _;rfl
  |succ n ih=>
   intro hn;rw[List.range_succ,List.filter_append,List.length_append,List.take_succ_eq_append_getElem (by omega),lost_app,Int.natCast_add,ih (by omega)];congr 1;have e:b.getD n 0=b[n]:=by simp[List.getD,show n<b.length by omega]
   by_cases c:b[n]<0
   ·rw[List.filter_cons_of_pos (by rw[decide_eq_true_eq,e];exact c)];show ((1:Nat):Int)=0+if b[n]<0 then 1 else 0
    rw[if_pos c];rfl
   ·rw[List.filter_cons_of_neg (by rw[decide_eq_true_eq,e];exact c)];show ((0:Nat):Int)=0+if b[n]<0 then 1 else 0
    rw[if_neg c];rfl
 unfold lostF;rw[List.length_map,←h,key b.length (Nat.le_refl _),List.take_length]
theorem RightR.fewer {w:DWorld} {ps:List DPlan} {b:Int} {o:List Int} (h:RightR w ps b o) (k:Nat):RightR w (ps.take k) b o:=by
 obtain ⟨h1,h2,h3,h4,h5⟩:=h;refine ⟨h1,h2,h3,fun j hj=>?_,h5⟩;rw[List.length_take] at hj;have e:∀i,i≤j→(ps.take k).getD i dPln=ps.getD i dPln:=fun i hi=>by
  simp only[List.getD];rw[List.getElem?_take,if_pos (by omega)]
 obtain ⟨⟨q1,q2⟩,q3⟩:=h4 j (by omega);rw[e j (Nat.le_refl _)];exact ⟨⟨q1,fun i hi=>by rw[e i (by omega)];exact q2 i hi⟩,q3⟩
theorem bst_cases (w:DWorld) (p:DPlan) (r:Int):((bestF w p r).2.2.2.2≠0)∨∃a b:Nat,a≤b∧b≤p.2.1.length∧errI w p r=0∧(makeF w p.1 (stopsI p.2.1 r a b)).2=0∧(bestF w p r).1=(makeF w p.1 (stopsI p.2.1 r a b)).1:=by
 unfold bestF;by_cases hE:errI w p r=0
 ·rw[if_neg (Decidable.not_not.2 hE)];by_cases hA:atN (linesI w p r) (linesI w p r).length<0
  ·rw[if_pos hA];exact .inl (show (4:Int)≠0 by decide)
  ·rw[if_neg hA];obtain ⟨a,b,h1,h2,h3,h4⟩:=best_is (w:=w) (p:=p) (r:=r) (by omega);rw[h3];exact .inr ⟨a,b,h1,h2,hE,h4,rfl⟩
 ·rw[if_pos hE];exact .inl hE
theorem bst_ok {w:DWorld} {p:DPlan} {q:Int} (h:(bstP w p q).2=0):∃a b:Nat,a≤b∧b≤p.2.1.length∧(bstP w p q).1.1=p.1∧checkP w (bstP w p q).1=0∧(bstP w p q).1.2.1=stopsI p.2.1 q a b:=by
 rcases bst_cases w p q with h'|⟨a,b,h1,h2,_,h4,h5⟩
 ·exact absurd h h'
 ·have h6:=made_ok h4;unfold bstP;dsimp only;rw[h5];exact ⟨a,b,h1,h2,h6.2.2.1,h6.2.1,h6.2.2.2.1⟩
theorem stopsI_fil {ss:List DStop} {r:Int} {a b:Nat} (hab:a≤b) (hb:b≤ss.length) (P:DStop→Bool) (h1:P (r,true)=false) (h2:P (r,false)=false):(stopsI ss r a b).filter P=ss.filter P:=by
 have e:ss.take a++((ss.take b).drop a++ss.drop b)=ss:=by
  rw[←List.append_assoc];have:ss.take a++(ss.take b).drop a=ss.take b:=by
   have:=List.take_append_drop a (ss.take b);rwa [List.take_take,Nat.min_eq_left hab] at this
  rw[this,List.take_append_drop]
 rw[stopsI_parts hab hb];simp only[List.filter_append];rw[List.filter_cons_of_neg (by rw[h1];decide),List.filter_cons_of_neg (by rw[h2];decide),List.filter_nil,List.nil_append,List.nil_append,←List.filter_append,←List.filter_append,e]
structure LeftR (w:DWorld) (hs l:List DPlan) (o to:List Int):Prop where
 len:l.length=hs.length
 car:∀i,i<hs.length→(l.getD i dPln).1=(hs.getD i dPln).1
 good:∀i,i<hs.length→checkP w (l.getD i dPln)=0
 rest:∀i,i<hs.length→(l.getD i dPln).2.1.filter (fun s=>decide (s.1∉o))=(hs.getD i dPln).2.1
 has:∀i,i<hs.length→∀s∈(l.getD i dPln).2.1,s.1∈o→∃k:Nat,k<o.length∧o.getD k 0=s.1∧to.getD k 0=(i:Int)
 takes:∀k:Nat,k<o.length→0≤to.getD k 0→∀b:Bool,(o.getD k 0,b)∈(l.getD (to.getD k 0).toNat dPln).2.1
theorem LeftR.no {w:DWorld} {hs l:List DPlan} {o to:List Int} (h:LeftR w hs l o to) {q:Int} (hq:q∉o) {i:Nat} (hi:i<hs.length) (hn:∀s∈(hs.getD i dPln).2.1,s.1≠q):∀s∈(l.getD i dPln).2.1,s.1≠q:=fun s hs' e=>by
 refine hn s ?_ e;rw[←h.rest i hi];exact List.mem_filter.2 ⟨hs',decide_eq_true (by rw[e];exact hq)⟩
theorem LeftR.skip {w:DWorld} {hs l:List DPlan} {o to:List Int} (h:LeftR w hs l o to) {q t:Int} (hl:to.length=o.length) (hq:q∉o) (hn:∀i,i<hs.length→∀s∈(hs.getD i dPln).2.1,s.1≠q) (ht:t<0):LeftR w hs l (o++[q]) (to++[t]):=by
 have hno:=fun i hi=>h.no hq hi (hn i hi);refine ⟨h.len,h.car,h.good,fun i hi=>?_,fun i hi s hs' hm=>?_,fun k hk h0 b=>?_⟩
 ·rw[←h.rest i hi];refine List.filter_congr fun s hs'=>?_;rw[decide_eq_decide,List.mem_append,List.mem_singleton];have:=hno i hi s hs';exact ⟨fun z y=>z (.inl y),fun z y=>y.elim z this⟩
 ·rcases List.mem_append.1 hm with hm|hm
  ·obtain ⟨k,hk,e1,e2⟩:=h.has i hi s hs' hm;exact ⟨k,by rw[List.length_append];omega,by rw[getD_app hk];exact e1,by rw[getD_app (by omega)];exact e2⟩
  ·exact absurd (List.mem_singleton.1 hm) (hno i hi s hs')
 ·rw[List.length_append,List.length_singleton] at hk;by_cases c:k<o.length
  ·rw[getD_app (by omega)] at h0⊢;rw[getD_app c];exact h.takes k c h0 b
  ·have e:(to++[t]).getD k 0=t:=by
    simp only[List.getD];rw[List.getElem?_append_right (by omega),show k-to.length=0 by omega];rfl
   rw[e] at h0;omega
theorem getD_setR {l:List DPlan} {i:Nat} (hi:i<l.length) (a:DPlan) (j:Nat):(l.set i a).getD j dPln=if j=i then a else l.getD j dPln:=by
 simp only[List.getD,List.getElem?_set];by_cases c:i=j
 ·subst c;rw[if_pos rfl,if_pos hi,if_pos rfl];rfl
 ·rw[if_neg c,if_neg (Ne.symm c)]
theorem LeftR.take {w:DWorld} {hs l:List DPlan} {o to:List Int} (h:LeftR w hs l o to) {q:Int} {t:Nat} (hl:to.length=o.length) (hq:q∉o) (hn:∀i,i<hs.length→∀s∈(hs.getD i dPln).2.1,s.1≠q) (ht:t<hs.length) (hb:(bstP w (l.getD t dPln) q).2=0):LeftR w hs (l.set t (bstP w (l.getD t dPln) q).1) (o++[q]) (to++[(t:Int)]):=by
 have hno:=fun i hi=>h.no hq hi (hn i hi);obtain ⟨a,b,hab,hbl,b1,b2,b3⟩:=bst_ok hb;generalize (bstP w (l.getD t dPln) q).1=X at b1 b2 b3;have htl:t<l.length:=by rw[h.len];exact ht
 have hP:∀i,i<hs.length→(l.getD i dPln).2.1.filter (fun s=>decide (s.1∉o++[q]))=(hs.getD i dPln).2.1:=fun i hi=>by
  rw[←h.rest i hi];refine List.filter_congr fun s hs'=>?_;rw[decide_eq_decide,List.mem_append,List.mem_singleton];have:=hno i hi s hs';exact ⟨fun z y=>z (.inl y),fun z y=>y.elim z this⟩
 have elast:(to++[(t:Int)]).getD o.length 0=t:=by
  simp only[List.getD];rw[List.getElem?_append_right (by omega),show o.length-to.length=0 by omega];rfl
 have eq':(o++[q]).getD o.length 0=q:=by
  simp only[List.getD];rw[List.getElem?_append_right (Nat.le_refl _),Nat.sub_self];rfl
 refine ⟨by rw[List.length_set];exact h.len,fun i hi=>?_,fun i hi=>?_,fun i hi=>?_,fun i hi s hs' hm=>?_,fun k hk h0 c=>?_⟩
 ·rw[getD_setR htl];by_cases e:i=t
  ·rw[if_pos e,b1,e];exact h.car t ht
  ·rw[if_neg e];exact h.car i hi
 ·rw[getD_setR htl];by_cases e:i=t
  ·rw[if_pos e];exact b2
  ·rw[if_neg e];exact h.good i hi
 ·rw[getD_setR htl];by_cases e:i=t
  ·rw[if_pos e,b3,e,stopsI_fil hab hbl _ (decide_eq_false fun z=>z (List.mem_append.2 (.inr (.head _)))) (decide_eq_false fun z=>z (List.mem_append.2 (.inr (.head _))))];exact hP t ht
  ·rw[if_neg e];exact hP i hi
 ·rw[getD_setR htl] at hs';have old:s∈(l.getD i dPln).2.1→∃k:Nat,k<(o++[q]).length∧(o++[q]).getD k 0=s.1∧(to++[(t:Int)]).getD k 0=(i:Int):=fun hs''=>by
   rcases List.mem_append.1 hm with hm|hm
   ·obtain ⟨k,hk,e1,e2⟩:=h.has i hi s hs'' hm;exact ⟨k,by rw[List.length_append];omega,by rw[getD_app hk];exact e1,by rw[getD_app (by omega)];exact e2⟩
   ·exact absurd (List.mem_singleton.1 hm) (hno i hi s hs'')
  by_cases e:i=t
  ·rw[if_pos e,b3,stopsI_in hab hbl] at hs';rcases hs' with ⟨e1,_⟩|hs'
   ·exact ⟨o.length,by rw[List.length_append,List.length_singleton];omega,by rw[eq',e1],by rw[elast,e]⟩
   ·exact old (by rw[e];exact hs')
  ·rw[if_neg e] at hs';exact old hs'
 ·rw[List.length_append,List.length_singleton] at hk;rw[getD_setR htl];by_cases d:k<o.length
  ·rw[getD_app (by omega)] at h0⊢;rw[getD_app d];have:=h.takes k d h0 c;by_cases e:(to.getD k 0).toNat=t
   ·rw[if_pos e,b3,stopsI_in hab hbl];rw[e] at this;exact .inr this
   ·rw[if_neg e];exact this
  ·have e:k=o.length:=by omega
   rw[e,elast,eq',Int.toNat_natCast,if_pos rfl,b3,stopsI_in hab hbl];refine .inl ⟨rfl,?_⟩;cases c
   ·exact .inr rfl
   ·exact .inl rfl
theorem play_left {w:DWorld} {hs:List DPlan}:∀(o to:List Int) (o0 to0:List Int) (l:List DPlan) (i:Int),0≤i→to0.length=o0.length→to.length=o.length→(∀t∈to,t<(hs.length:Int))→(∀k,k<o.length→o.getD k 0∉o0∧o.getD k 0∉o.take k)→(∀q∈o,∀i,i<hs.length→∀s∈(hs.getD i dPln).2.1,s.1≠q)→LeftR w hs l o0 to0→(playR w l o to i).2<0→
  LeftR w hs (playR w l o to i).1 (o0++o) (to0++to)
 |[],[],o0,to0,l,i,_,_,_,_,_,_,h,_=>by
  rw[List.append_nil,List.append_nil];unfold playR;exact h
 |[],t::to,o0,to0,l,i,_,_,hl,_,_,_,_,_=>by simp at hl
 |q::o,[],o0,to0,l,i,_,_,hl,_,_,_,_,_=>by simp at hl
 |q::o,t::to,o0,to0,l,i,hi,h0,hl,ht,hd,hn,h,hw=>by
  have hl':to.length=o.length:=by simpa using hl
  have ht':∀x∈to,x<(hs.length:Int):=fun x hx=>ht x (.tail _ hx);have hq0:q∉o0:=(hd 0 (by simp)).1;have hd':∀k,k<o.length→o.getD k 0∉o0++[q]∧o.getD k 0∉o.take k:=fun k hk=>by
   have:=hd (k+1) (by rw[List.length_cons];omega);rw[List.getD_cons_succ,List.take_succ_cons,List.mem_cons,not_or] at this;refine ⟨fun z=>?_,this.2.2⟩;rcases List.mem_append.1 z with z|z
   ·exact this.1 z
   ·exact this.2.1 (List.mem_singleton.1 z)
  have hn':∀x∈o,∀i,i<hs.length→∀s∈(hs.getD i dPln).2.1,s.1≠x:=fun x hx=>hn x (.tail _ hx);have hnq:=hn q (.head _);have h1:(to0++[t]).length=(o0++[q]).length:=by rw[List.length_append,List.length_append,h0];rfl
  rw[show o0++q::o=(o0++[q])++o by rw[List.append_assoc];rfl,show to0++t::to=(to0++[t])++to by rw[List.append_assoc];rfl];unfold playR at hw⊢;by_cases c:t<0
  ·rw[if_pos c] at hw⊢;exact play_left o to _ _ l (i+1) (by omega) h1 hl' ht' hd' hn' (h.skip h0 hq0 hnq c) hw
  ·rw[if_neg c] at hw⊢;by_cases d:(bstP w (l.getD t.toNat dPln) q).2≠0
   ·rw[if_pos d] at hw;have hw:i<0:=hw;omega
   ·rw[if_neg d] at hw⊢;have htt:=ht t (.head _);obtain ⟨n,rfl⟩:∃n:Nat,t=n:=⟨t.toNat,by omega⟩;rw[Int.toNat_natCast] at d hw⊢;exact play_left o to _ _ _ (i+1) (by omega) h1 hl' ht' hd' hn' (h.take h0 hq0 hnq (by omega) (Decidable.not_not.1 d)) hw
end T
end Go.Proofs.YtpocfbfmjippnaaGreat
end
