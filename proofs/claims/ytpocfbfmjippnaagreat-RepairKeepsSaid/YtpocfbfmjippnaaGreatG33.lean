/- Parts of the proof of the law; no condition. -/
import Derived.Test.YtpocfbfmjippnaaGreatG32
set_option linter.all false
section
namespace Go.Proofs.YtpocfbfmjippnaaGreat
namespace T
theorem fil1 {α:Type} {P:α→Bool} {x:α} (h:P x=true):[x].filter P=[x]:=by rw[List.filter_cons_of_pos h,List.filter_nil]
theorem fil0 {α:Type} {P:α→Bool} {x:α} (h:P x=false):[x].filter P=[]:=by rw[List.filter_cons_of_neg (by rw[h];decide),List.filter_nil]
def lenS:List DPlan→Int
 |[]=>0
 |p::r=>(p.2.1.length:Int)+lenS r
theorem lenS_app:∀a b:List DPlan,lenS (a++b)=lenS a+lenS b
 |[],b=>by rw[List.nil_append];show _=0+_;omega
 |x::a,b=>by
  rw[List.cons_append];show (x.2.1.length:Int)+lenS (a++b)=(x.2.1.length:Int)+lenS a+lenS b;rw[lenS_app a b];omega
theorem lenS_set:∀(l:List DPlan) (t:Nat) (X:DPlan),t<l.length→lenS (l.set t X)+((l.getD t dPln).2.1.length:Int)=lenS l+(X.2.1.length:Int)
 |[],t,X,h=>by simp at h
 |x::l,0,X,_=>by
  show (X.2.1.length:Int)+lenS l+(x.2.1.length:Int)=(x.2.1.length:Int)+lenS l+(X.2.1.length:Int);omega
 |x::l,t+1,X,h=>by
  have:=lenS_set l t X (by simpa using h);show (x.2.1.length:Int)+lenS (l.set t X)+((l.getD t dPln).2.1.length:Int)=(x.2.1.length:Int)+lenS l+(X.2.1.length:Int);omega
theorem lenS_take (l:List DPlan) {k:Nat} (h:k<l.length):lenS (l.take (k+1))=lenS (l.take k)+((l.getD k dPln).2.1.length:Int):=by
 rw[List.take_succ_eq_append_getElem h,lenS_app,show l.getD k dPln=l[k] by simp[List.getD,h]];show _=_;unfold lenS;unfold lenS;omega
theorem play_lenS (w:DWorld):∀(o to:List Int) (ps:List DPlan) (i:Int),0≤i→to.length=o.length→(∀t∈to,t<(ps.length:Int))→(playR w ps o to i).2<0→lenS (playR w ps o to i).1=lenS ps+2*((o.length:Int)-lostN to)
 |[],[],ps,i,_,_,_,h=>by
  unfold playR;show lenS ps=lenS ps+2*(((0:Nat):Int)-0);omega
 |[],t::to,ps,i,_,hl,_,_=>by simp at hl
 |q::o,[],ps,i,_,hl,_,_=>by simp at hl
 |q::o,t::to,ps,i,hi,hl,ht,h=>by
  have hl':to.length=o.length:=by simpa using hl
  have ht0:=ht t (.head _);have hr:∀x∈to,x<(ps.length:Int):=fun x hx=>ht x (.tail _ hx);unfold playR at h⊢;have e:lostN (t::to)=lostN to+if t<0 then 1 else 0:=rfl
  rw[e,List.length_cons];by_cases c:t<0
  ·rw[if_pos c] at h⊢;rw[if_pos c,play_lenS w o to ps (i+1) (by omega) hl' hr h];omega
  ·rw[if_neg c] at h⊢;rw[if_neg c];by_cases d:(bstP w (ps.getD t.toNat dPln) q).2≠0
   ·rw[if_pos d] at h;have h:i<0:=h;omega
   ·rw[if_neg d] at h⊢;rw[play_lenS w o to _ (i+1) (by omega) hl' (fun x hx=>by rw[List.length_set];exact hr x hx) h];have h1:=lenS_set ps t.toNat (bstP w (ps.getD t.toNat dPln) q).1 (by omega);obtain ⟨a,b,hab,hbl,_,_,b3⟩:=bst_ok (Decidable.not_not.1 d);have h2:=stopsI_length (r:=q) hab hbl;rw[b3,h2] at h1;omega
def cntQ (q:Int) (l:List DStop):Nat:=(l.filter fun s=>decide (s=(q,true))).length
def pkQ (q:Int):List DPlan→Nat
 |[]=>0
 |p::r=>cntQ q p.2.1+pkQ q r
theorem pkQ_app (q:Int):∀a b:List DPlan,pkQ q (a++b)=pkQ q a+pkQ q b
 |[],b=>by rw[List.nil_append];show _=0+_;omega
 |x::a,b=>by
  rw[List.cons_append];show cntQ q x.2.1+pkQ q (a++b)=cntQ q x.2.1+pkQ q a+pkQ q b;rw[pkQ_app q a b];omega
theorem pkQ_take (q:Int) (l:List DPlan) {k:Nat} (h:k<l.length):pkQ q (l.take (k+1))=pkQ q (l.take k)+cntQ q (l.getD k dPln).2.1:=by
 rw[List.take_succ_eq_append_getElem h,pkQ_app,show l.getD k dPln=l[k] by simp[List.getD,h]];rfl
theorem cntQ_take (q:Int) (l:List DStop) {k:Nat} (h:k<l.length):cntQ q (l.take (k+1))=cntQ q (l.take k)+if l.getD k dStop=(q,true) then 1 else 0:=by
 unfold cntQ;rw[List.take_succ_eq_append_getElem h,List.filter_append,List.length_append,show l.getD k dStop=l[k] by simp[List.getD,h]];by_cases c:l[k]=(q,true)
 ·rw[fil1 (P:=fun s:DStop=>decide (s=(q,true))) (decide_eq_true c),if_pos c];rfl
 ·rw[fil0 (P:=fun s:DStop=>decide (s=(q,true))) (decide_eq_false c),if_neg c];rfl
theorem cntQ_no {q:Int} {l:List DStop} (h:(q,true)∉l):cntQ q l=0:=by
 unfold cntQ;rw[List.length_eq_zero_iff,List.filter_eq_nil_iff];intro s hs e;exact h ((of_decide_eq_true e)▸hs)
theorem cntQ_one {q:Int}:∀{l:List DStop},l.Nodup→(q,true)∈l→cntQ q l=1
 |[],_,h=>by simp at h
 |s::l,hn,h=>by
  rw[List.nodup_cons] at hn;unfold cntQ;by_cases c:s=(q,true)
  ·have:=cntQ_no (q:=q) (l:=l) (by rw[←c];exact hn.1);unfold cntQ at this;rw[show s::l=[s]++l from rfl,List.filter_append,fil1 (P:=fun s:DStop=>decide (s=(q,true))) (decide_eq_true c),List.length_append,this];rfl
  ·rw[show s::l=[s]++l from rfl,List.filter_append,fil0 (P:=fun s:DStop=>decide (s=(q,true))) (decide_eq_false c),List.nil_append];exact cntQ_one hn.2 ((List.mem_cons.1 h).resolve_left fun z=>c z.symm)
theorem pk_no {q:Int}:∀{l:List DPlan},(∀i,i<l.length→(q,true)∉(l.getD i dPln).2.1)→pkQ q l=0
 |[],_=>rfl
 |p::l,h=>by
  have h0:cntQ q p.2.1=0:=cntQ_no (h 0 (by simp));have h1:=pk_no (l:=l) fun i hi=>h (i+1) (by rw[List.length_cons];omega);show cntQ q p.2.1+pkQ q l=0;omega
theorem pk_one {q:Int}:∀{l:List DPlan} {i:Nat},i<l.length→(l.getD i dPln).2.1.Nodup→(q,true)∈(l.getD i dPln).2.1→(∀j,j<l.length→j≠i→(q,true)∉(l.getD j dPln).2.1)→pkQ q l=1
 |[],i,h,_,_,_=>by simp at h
 |p::l,0,_,hn,hm,h=>by
  have h0:cntQ q p.2.1=1:=cntQ_one hn hm;have h1:=pk_no (q:=q) (l:=l) fun i hi=>h (i+1) (by rw[List.length_cons];omega) (by omega);show cntQ q p.2.1+pkQ q l=1;omega
 |p::l,i+1,hi,hn,hm,h=>by
  have h0:cntQ q p.2.1=0:=cntQ_no (h 0 (by simp) (by omega));have h1:=pk_one (q:=q) (l:=l) (i:=i) (by simpa using hi) hn hm fun j hj hji=>h (j+1) (by rw[List.length_cons];omega) (by omega);show cntQ q p.2.1+pkQ q l=1;omega
theorem dist_ne {o:List Int} (hd:∀j,j<o.length→o.getD j 0∉o.take j) {i j:Nat} (hi:i<o.length) (hj:j<o.length) (e:o.getD j 0=o.getD i 0):j=i:=by
 have key:∀{i j:Nat},i<o.length→j<i→o.getD j 0≠o.getD i 0:=fun {i j} hi hj e=>by
  refine hd i hi ?_;rw[←e];have hj':j<(o.take i).length:=by rw[List.length_take];omega
  have:(o.take i)[j]=o.getD j 0:=by
   rw[List.getElem_take];simp[List.getD,show j<o.length by omega]
  rw[←this];exact List.getElem_mem hj'
 rcases Nat.lt_trichotomy i j with c|c|c
 ·exact absurd e.symm (key hj c)
 ·exact c.symm
 ·exact absurd e (key hi c)
theorem getD_mem {o:List Int} {k:Nat} (h:k<o.length):o.getD k 0∈o:=by
 rw[show o.getD k 0=o[k] by simp[List.getD,h]];exact List.getElem_mem h
theorem LeftR.picks {w:DWorld} {hs l:List DPlan} {o to:List Int} (h:LeftR w hs l o to) (hl:to.length=o.length) (hd:∀j,j<o.length→o.getD j 0∉o.take j) (ht:∀t∈to,t<(hs.length:Int)) {k:Nat} (hk:k<o.length):pkQ (o.getD k 0) l=if to.getD k 0<0 then 0 else 1:=by
 have hh:∀i:Nat,i<l.length→(o.getD k 0,true)∈(l.getD i dPln).2.1→to.getD k 0=(i:Int):=fun i hi hm=>by
  obtain ⟨j,hj,e1,e2⟩:=h.has i (by rw[←h.len];exact hi) _ hm (getD_mem hk);rw[←dist_ne hd hk hj e1];exact e2
 by_cases c:to.getD k 0<0
 ·rw[if_pos c];exact pk_no fun i hi hm=>by have:=hh i hi hm;omega
 ·rw[if_neg c];have h1:to.getD k 0<(hs.length:Int):=ht _ (getD_mem (by omega));have h2:=h.takes k hk (by omega) true;have h3:(to.getD k 0).toNat<hs.length:=by omega
  refine pk_one (i:=(to.getD k 0).toNat) (by rw[h.len];exact h3) ?_ h2 fun j hj hji hm=>?_
  ·have:=(asks_iff.1 (good_has (h.good _ h3)).1).2.2;exact this.nodup
  ·have:=hh j hj hm;omega
theorem fil_at {α:Type} (P:α→Bool) (d:α) (l:List α) {m:Nat} (h:m<l.length):
  (P (l.getD m d)=true→((l.take m).filter P).length<(l.filter P).length∧(l.filter P).getD ((l.take m).filter P).length d=l.getD m d∧((l.take (m+1)).filter P).length=((l.take m).filter P).length+1)∧
  (P (l.getD m d)=false→((l.take (m+1)).filter P).length=((l.take m).filter P).length):=by
 have e:l.getD m d=l[m]:=by simp[List.getD,h]
 have e1:l.filter P=(l.take m).filter P++(l[m]::l.drop (m+1)).filter P:=by
  rw[←List.filter_append,←List.drop_eq_getElem_cons h,List.take_append_drop]
 rw[e]
 constructor
 ·intro hp
  rw[List.filter_cons_of_pos hp] at e1
  refine ⟨?_,?_,?_⟩
  ·rw[e1,List.length_append,List.length_cons];omega
  ·rw[e1]
   simp only[List.getD]
   rw[List.getElem?_append_right (Nat.le_refl _),Nat.sub_self]
   rfl
  ·rw[List.take_succ_eq_append_getElem h,List.filter_append,List.filter_cons_of_pos hp,List.length_append]
   rfl
 ·intro hp
  rw[List.take_succ_eq_append_getElem h,List.filter_append,List.filter_cons_of_neg (by rw[hp];decide),List.filter_nil,List.append_nil]
end T
end Go.Proofs.YtpocfbfmjippnaaGreat
end
