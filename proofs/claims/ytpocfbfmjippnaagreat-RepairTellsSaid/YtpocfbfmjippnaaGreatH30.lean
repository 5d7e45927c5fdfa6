/- Parts of the proof of the law; no condition. -/
import Derived.Test.YtpocfbfmjippnaaGreatH29
set_option linter.all false
section
namespace Go.Proofs.YtpocfbfmjippnaaGreat
namespace T
theorem getD_app {α:Type} {d:α} {l m:List α} {i:Nat} (h:i<l.length):(l++m).getD i d=l.getD i d:=by
 simp only[List.getD];rw[List.getElem?_append_left h]
theorem lost_app:∀a b:List Int,lostN (a++b)=lostN a+lostN b
 |[],b=>by rw[List.nil_append];show _=0+_;omega
 |x::a,b=>by
  rw[List.cons_append];show lostN (a++b)+(if x<0 then 1 else 0)=lostN a+(if x<0 then 1 else 0)+lostN b;rw[lost_app a b];omega
theorem RightR.fewer {w:DWorld} {ps:List DPlan} {b:Int} {o:List Int} (h:RightR w ps b o) (k:Nat):RightR w (ps.take k) b o:=by
 obtain ⟨h1,h2,h3,h4,h5⟩:=h;refine ⟨h1,h2,h3,fun j hj=>?_,h5⟩;rw[List.length_take] at hj;have e:∀i,i≤j→(ps.take k).getD i dPln=ps.getD i dPln:=fun i hi=>by
  simp only[List.getD];rw[List.getElem?_take,if_pos (by omega)]
 obtain ⟨⟨q1,q2⟩,q3⟩:=h4 j (by omega);rw[e j (Nat.le_refl _)];exact ⟨⟨q1,fun i hi=>by rw[e i (by omega)];exact q2 i hi⟩,q3⟩
theorem bst_cases (w:DWorld) (p:DPlan) (r:Int):((bestF w p r).2.2.2.2≠0)∨∃a b:Nat,a≤b∧b≤p.2.1.length∧errI w p r=0∧(makeF w p.1 (stopsI p.2.1 r a b)).2=0∧(bestF w p r).1=(makeF w p.1 (stopsI p.2.1 r a b)).1:=by
 unfold bestF;by_cases hE:errI w p r=0
 ·rw[if_neg (Decidable.not_not.2 hE)];by_cases hA:atN (linesI w p r) (linesI w p r).length<0
  ·rw[if_pos hA];exact .inl (show (4:Int)≠0 by decide)
  ·rw[if_neg hA];obtain ⟨a,b,h1,h2,h3,h4⟩:=best_is (w:=w) (p:=p) (r:=r) (by omega);rw[h3];exact .inr ⟨a,b,h1,h2,hE,h4,rfl⟩
 ·rw[if_pos hE];exact .inl hE
theorem bst_ok {w:DWorld} {p:DPlan} {q:Int} (h:(bstP w p q).2=0):∃a b:Nat,a≤b∧b≤p.2.1.length∧(bstP w p q).1.1=p.1∧checkP w (bstP w p q).1=0∧(bstP w p q).1.2.1=stopsI p.2.1 q a b:=by
 rcases bst_cases w p q with h'|⟨a,b,h1,h2,_,h4,h5⟩
 ·exact absurd h h'
 ·have h6:=made_ok h4;unfold bstP;dsimp only;rw[h5];exact ⟨a,b,h1,h2,h6.2.2.1,h6.2.1,h6.2.2.2.1⟩
theorem stopsI_fil {ss:List DStop} {r:Int} {a b:Nat} (hab:a≤b) (hb:b≤ss.length) (P:DStop→Bool) (h1:P (r,true)=false) (h2:P (r,false)=false):(stopsI ss r a b).filter P=ss.filter P:=by
 have e:ss.take a++((ss.take b).drop a++ss.drop b)=ss:=by
  rw[←List.append_assoc];have:ss.take a++(ss.take b).drop a=ss.take b:=by
   have:=List.take_append_drop a (ss.take b);rwa [List.take_take,Nat.min_eq_left hab] at this
  rw[this,List.take_append_drop]
 rw[stopsI_parts hab hb];simp only[List.filter_append];rw[List.filter_cons_of_neg (by rw[h1];decide),List.filter_cons_of_neg (by rw[h2];decide),List.filter_nil,List.nil_append,List.nil_append,←List.filter_append,←List.filter_append,e]
structure LeftR (w:DWorld) (hs l:List DPlan) (o to:List Int):Prop where
 len:l.length=hs.length
 car:∀i,i<hs.length→(l.getD i dPln).1=(hs.getD i dPln).1
 good:∀i,i<hs.length→checkP w (l.getD i dPln)=0
 rest:∀i,i<hs.length→(l.getD i dPln).2.1.filter (fun s=>decide (s.1∉o))=(hs.getD i dPln).2.1
 has:∀i,i<hs.length→∀s∈(l.getD i dPln).2.1,s.1∈o→∃k:Nat,k<o.length∧o.getD k 0=s.1∧to.getD k 0=(i:Int)
 takes:∀k:Nat,k<o.length→0≤to.getD k 0→∀b:Bool,(o.getD k 0,b)∈(l.getD (to.getD k 0).toNat dPln).2.1
theorem LeftR.no {w:DWorld} {hs l:List DPlan} {o to:List Int} (h:LeftR w hs l o to) {q:Int} (hq:q∉o) {i:Nat} (hi:i<hs.length) (hn:∀s∈(hs.getD i dPln).2.1,s.1≠q):∀s∈(l.getD i dPln).2.1,s.1≠q:=fun s hs' e=>by
 refine hn s ?_ e;rw[←h.rest i hi];exact List.mem_filter.2 ⟨hs',decide_eq_true (by rw[e];exact hq)⟩
theorem LeftR.skip {w:DWorld} {hs l:List DPlan} {o to:List Int} (h:LeftR w hs l o to) {q t:Int} (hl:to.length=o.length) (hq:q∉o) (hn:∀i,i<hs.length→∀s∈(hs.getD i dPln).2.1,s.1≠q) (ht:t<0):LeftR w hs l (o++[q]) (to++[t]):=by
 have hno:=fun i hi=>h.no hq hi (hn i hi);refine ⟨h.len,h.car,h.good,fun i hi=>?_,fun i hi s hs' hm=>?_,fun k hk h0 b=>?_⟩
 ·rw[←h.rest i hi];refine List.filter_congr fun s hs'=>?_;rw[decide_eq_decide,List.mem_append,List.mem_singleton];have:=hno i hi s hs';exact ⟨fun z y=>z (.inl y),fun z y=>y.elim z this⟩
 ·rcases List.mem_append.1 hm with hm|hm
  ·obtain ⟨k,hk,e1,e2⟩:=h.has i hi s hs' hm;exact ⟨k,by rw[List.length_append];omega,by rw[getD_app hk];exact e1,by rw[getD_app (by omega)];exact e2⟩
  ·exact absurd (List.mem_singleton.1 hm) (hno i hi s hs')
 ·rw[List.length_append,List.length_singleton] at hk;by_cases c:k<o.length
  ·rw[getD_app (by omega)] at h0⊢;rw[getD_app c];exact h.takes k c h0 b
  ·have e:(to++[t]).getD k 0=t:=by
    simp only[List.getD];rw[List.getElem?_append_right (by omega),show k-to.length=0 by omega];rfl
   rw[e] at h0;omega
theorem getD_setR {l:List DPlan} {i:Nat} (hi:i<l.length) (a:DPlan) (j:Nat):(l.set i a).getD j dPln=if j=i then a else l.getD j dPln:=by
 simp only[List.getD,List.getElem?_set];by_cases c:i=j
 ·subst c;rw[if_pos rfl,if_pos hi,if_pos rfl];rfl
 ·rw[if_neg c,if_neg (Ne.symm c)]
theorem LeftR.take {w:DWorld} {hs l:List DPlan} {o to:List Int} (h:LeftR w hs l o to) {q:Int} {t:Nat} (hl:to.length=o.length) (hq:q∉o) (hn:∀i,i<hs.length→∀s∈(hs.getD i dPln).2.1,s.1≠q) (ht:t<hs.length) (hb:(bstP w (l.getD t dPln) q).2=0):LeftR w hs (l.set t (bstP w (l.getD t dPln) q).1) (o++[q]) (to++[(t:Int)]):=by
 have hno:=fun i hi=>h.no hq hi (hn i hi);obtain ⟨a,b,hab,hbl,b1,b2,b3⟩:=bst_ok hb;generalize (bstP w (l.getD t dPln) q).1=X at b1 b2 b3;have htl:t<l.length:=by rw[h.len];exact ht
 have hP:∀i,i<hs.length→(l.getD i dPln).2.1.filter (fun s=>decide (s.1∉o++[q]))=(hs.getD i dPln).2.1:=fun i hi=>by
  rw[←h.rest i hi];refine List.filter_congr fun s hs'=>?_;rw[decide_eq_decide,List.mem_append,List.mem_singleton];have:=hno i hi s hs';exact ⟨fun z y=>z (.inl y),fun z y=>y.elim z this⟩
 have elast:(to++[(t:Int)]).getD o.length 0=t:=by
  simp only[List.getD];rw[List.getElem?_append_right (by omega),show o.length-to.length=0 by omega];rfl
 have eq':(o++[q]).getD o.length 0=q:=by
  simp only[List.getD];rw[List.getElem?_append_right (Nat.le_refl _),Nat.sub_self];rfl
 refine ⟨by rw[List.length_set];exact h.len,fun i hi=>?_,fun i hi=>?_,fun i hi=>?_,fun i hi s hs' hm=>?_,fun k hk h0 c=>?_⟩
 ·rw[getD_setR htl];by_cases e:i=t
  ·rw[if_pos e,b1,e];exact h.car t ht
  ·rw[if_neg e];exact h.car i hi
 ·rw[getD_setR htl];by_cases e:i=t
  ·rw[if_pos e];exact b2
  ·rw[if_neg e];exact h.good i hi
 ·rw[getD_setR htl];by_cases e:i=t
  ·rw[if_pos e,b3,e,stopsI_fil hab hbl _ (decide_eq_false fun z=>z (List.mem_append.2 (.inr (.head _)))) (decide_eq_false fun z=>z (List.mem_append.2 (.inr (.head _))))];exact hP t ht
  ·rw[if_neg e];exact hP i hi
 ·rw[getD_setR htl] at hs';have old:s∈(l.getD i dPln).2.1→∃k:Nat,k<(o++[q]).length∧(o++[q]).getD k 0=s.1∧(to++[(t:Int)]).getD k 0=(i:Int):=fun hs''=>by
   rcases List.mem_append.1 hm with hm|hm
   ·obtain ⟨k,hk,e1,e2⟩:=h.has i hi s hs'' hm;exact ⟨k,by rw[List.length_append];omega,by rw[getD_app hk];exact e1,by rw[getD_app (by omega)];exact e2⟩
   ·exact absurd (List.mem_singleton.1 hm) (hno i hi s hs'')
  by_cases e:i=t
  ·rw[if_pos e,b3,stopsI_in hab hbl] at hs';rcases hs' with ⟨e1,_⟩|hs'
   ·exact ⟨o.length,by rw[List.length_append,List.length_singleton];omega,by rw[eq',e1],by rw[elast,e]⟩
   ·exact old (by rw[e];exact hs')
  ·rw[if_neg e] at hs';exact old hs'
 ·rw[List.length_append,List.length_singleton] at hk;rw[getD_setR htl];by_cases d:k<o.length
  ·rw[getD_app (by omega)] at h0⊢;rw[getD_app d];have:=h.takes k d h0 c;by_cases e:(to.getD k 0).toNat=t
   ·rw[if_pos e,b3,stopsI_in hab hbl];rw[e] at this;exact .inr this
   ·rw[if_neg e];exact this
  ·have e:k=o.length:=by omega
   rw[e,elast,eq',Int.toNat_natCast,if_pos rfl,b3,stopsI_in hab hbl];refine .inl ⟨rfl,?_⟩;cases c
   ·exact .inr rfl
   ·exact .inl rfl
theorem play_left {w:DWorld} {hs:List DPlan}:∀(o to:List Int) (o0 to0:List Int) (l:List DPlan) (i:Int),0≤i→to0.length=o0.length→to.length=o.length→(∀t∈to,t<(hs.length:Int))→(∀k,k<o.length→o.getD k 0∉o0∧o.getD k 0∉o.take k)→(∀q∈o,∀i,i<hs.length→∀s∈(hs.getD i dPln).2.1,s.1≠q)→LeftR w hs l o0 to0→(playR w l o to i).2<0→
  LeftR w hs (playR w l o to i).1 (o0++o) (to0++to)
 |[],[],o0,to0,l,i,_,_,_,_,_,_,h,_=>by
  rw[List.append_nil,List.append_nil];unfold playR;exact h
 |[],t::to,o0,to0,l,i,_,_,hl,_,_,_,_,_=>by simp at hl
 |q::o,[],o0,to0,l,i,_,_,hl,_,_,_,_,_=>by simp at hl
 |q::o,t::to,o0,to0,l,i,hi,h0,hl,ht,hd,hn,h,hw=>by
  have hl':to.length=o.length:=by simpa using hl
  have ht':∀x∈to,x<(hs.length:Int):=fun x hx=>ht x (.tail _ hx);have hq0:q∉o0:=(hd 0 (by simp)).1;have hd':∀k,k<o.length→o.getD k 0∉o0++[q]∧o.getD k 0∉o.take k:=fun k hk=>by
   have:=hd (k+1) (by rw[List.length_cons];omega);rw[List.getD_cons_succ,List.take_succ_cons,List.mem_cons,not_or] at this;refine ⟨fun z=>?_,this.2.2⟩;rcases List.mem_append.1 z with z|z
   ·exact this.1 z
   ·exact this.2.1 (List.mem_singleton.1 z)
  have hn':∀x∈o,∀i,i<hs.length→∀s∈(hs.getD i dPln).2.1,s.1≠x:=fun x hx=>hn x (.tail _ hx);have hnq:=hn q (.head _);have h1:(to0++[t]).length=(o0++[q]).length:=by rw[List.length_append,List.length_append,h0];rfl
  rw[show o0++q::o=(o0++[q])++o by rw[List.append_assoc];rfl,show to0++t::to=(to0++[t])++to by rw[List.append_assoc];rfl];unfold playR at hw⊢;by_cases c:t<0
  ·rw[if_pos c] at hw⊢;exact play_left o to _ _ l (i+1) (by omega) h1 hl' ht' hd' hn' (h.skip h0 hq0 hnq c) hw
  ·rw[if_neg c] at hw⊢;by_cases d:(bstP w (l.getD t.toNat dPln) q).2≠0
   ·rw[if_pos d] at hw;have hw:i<0:=hw;omega
   ·rw[if_neg d] at hw⊢;have htt:=ht t (.head _);obtain ⟨n,rfl⟩:∃n:Nat,t=n:=⟨t.toNat,by omega⟩;rw[Int.toNat_natCast] at d hw⊢;exact play_left o to _ _ _ (i+1) (by omega) h1 hl' ht' hd' hn' (h.take h0 hq0 hnq (by omega) (Decidable.not_not.1 d)) hw
def kidF (w:DWorld) (hn:Nat) (go:List Int→List DPlan→DRep→DRep) (to:List Int) (q:Int) (n:Nat) (ps:List DPlan) (a:DRep) (k:Nat):DRep:=
 if (bstP w (ps.getD k dPln) q).2≠0 then (a.1,a.2++(chF hn n).map fun r=>(to++(k:Int)::r,(to.length:Int))) else go (to++[(k:Int)]) (ps.set k (bstP w (ps.getD k dPln) q).1) a
def lookF (w:DWorld) (hn:Nat):List Int→List Int→List DPlan→DRep→DRep
 |[],to,ps,a=>(leafR to ps (endsR w ps) a.1,a.2)
 |q::o,to,ps,a=>lookF w hn o (to++[-1]) ps ((List.range hn).foldl (kidF w hn (lookF w hn o) to q o.length ps) a)
def stepP (w:DWorld) (ps:List DPlan) (o to:List Int) (a:DRep) (r:List Int):DRep:=
 if 0≤(playR w ps o r to.length).2 then (a.1,a.2++[(to++r,(playR w ps o r to.length).2)]) else (leafR (to++r) (playR w ps o r to.length).1 (endsR w (playR w ps o r to.length).1) a.1,a.2)
theorem foldl_same {α β:Type} {f g:β→α→β} {l:List α} (h:∀x∈l,∀b,f b x=g b x):∀b,l.foldl f b=l.foldl g b:=by
 induction l with
 |nil=>intro b;rfl
 |cons x r ih=>
  intro b;rw[List.foldl_cons,List.foldl_cons,h x (.head _) b];exact ih (fun y hy=>h y (.tail _ hy)) _
theorem foldl_flat {α β γ:Type} (f:γ→β→γ) (g:α→List β):∀(l:List α) (c:γ),(l.flatMap g).foldl f c=l.foldl (fun c x=>(g x).foldl f c) c
 |[],c=>rfl
 |x::r,c=>by
  rw[List.flatMap_cons,List.foldl_append,List.foldl_cons];exact foldl_flat f g r _
theorem foldl_fail {β:Type} (g:β→DCase):∀(l:List β) (a:DRep),l.foldl (fun a r=>(a.1,a.2++[g r])) a=(a.1,a.2++l.map g)
 |[],a=>by rw[List.foldl_nil,List.map_nil,List.append_nil]
 |x::r,a=>by
  rw[List.foldl_cons,foldl_fail g r,List.map_cons];dsimp only;rw[List.append_assoc];rfl
theorem look_all (w:DWorld) (hn:Nat):∀(o to:List Int) (ps:List DPlan) (a:DRep),ps.length=hn→lookF w hn o to ps a=(chF hn o.length).foldl (stepP w ps o to) a
 |[],to,ps,a,h=>by
  show _=stepP w ps [] to a [];unfold stepP playR;rw[if_neg (show¬(0:Int)≤ -1 by decide),List.append_nil];rfl
 |q::o,to,ps,a,h=>by
  have e:chF hn (q::o).length=(digF hn).flatMap fun t=>(chF hn o.length).map (t:: ·):=rfl
  rw[e,foldl_flat];unfold digF;rw[List.foldl_append,List.foldl_map,List.foldl_cons,List.foldl_nil];have hneg:∀c:DRep,((chF hn o.length).map ((-1:Int):: ·)).foldl (stepP w ps (q::o) to) c=lookF w hn o (to++[-1]) ps c:=fun c=>by
   rw[look_all w hn o (to++[-1]) ps c h,List.foldl_map];refine foldl_same (fun r _ b=>?_) c;have e1:playR w ps (q::o) (-1::r) to.length=playR w ps o r (to++[-1]).length:=by
    rw[playR.eq_def];dsimp only;rw[if_pos (by decide),List.length_append,List.length_singleton,Int.natCast_add];rfl
   unfold stepP;rw[e1,List.append_assoc];rfl
  rw[hneg];show lookF w hn o (to++[-1]) ps _=_;congr 1;refine foldl_same (fun k hk b=>?_) a;have hk:=List.mem_range.1 hk;have e0:∀r,playR w ps (q::o) ((k:Int)::r) to.length=if (bstP w (ps.getD k dPln) q).2≠0 then ([],(to.length:Int)) else playR w (ps.set k (bstP w (ps.getD k dPln) q).1) o r (to.length+1:Int):=fun r=>by
   rw[playR.eq_def];dsimp only;rw[if_neg (by omega),Int.toNat_natCast]
  unfold kidF;rw[List.foldl_map];by_cases c:(bstP w (ps.getD k dPln) q).2≠0
  ·rw[if_pos c,←foldl_fail];refine foldl_same (fun r _ b=>?_) b;unfold stepP;rw[e0,if_pos c,if_pos (by omega)]
  ·rw[if_neg c,look_all w hn o _ _ b (by rw[List.length_set];exact h)];refine foldl_same (fun r _ b=>?_) b;have e1:playR w ps (q::o) ((k:Int)::r) to.length=playR w (ps.set k (bstP w (ps.getD k dPln) q).1) o r (to++[(k:Int)]).length:=by
    rw[e0,if_neg c,List.length_append,List.length_singleton,Int.natCast_add];rfl
   unfold stepP;rw[e1,List.append_assoc];rfl
theorem look_scan (w:DWorld) (hs:List DPlan) (o:List Int):lookF w hs.length o [] hs (none,[])=scanR w hs o:=by
 rw[look_all w hs.length o [] hs _ rfl];rfl
def fstF (h:Int):Int:=if h=0 then-1 else 0
def nextF (h:Int):List Int→Option (List Int)
 |[]=>none
 |t::r=>match nextF h r with
  |some r'=>some (t::r')
  |none=>if 0≤t then some ((if h≤t+1 then-1 else t+1)::List.replicate r.length (fstF h)) else none
theorem next_ch2:∀h:Fin 4,∀n:Fin 3,(chF h n)[0]?=some (List.replicate n (fstF (h:Nat)))∧∀i,i<(chF h n).length→nextF (h:Nat) ((chF h n).getD i [])=(chF h n)[i+1]?:=by decide
theorem next_ch {h n:Nat} (hh:h≤3) (hn:n≤2):(chF h n)[0]?=some (List.replicate n (fstF (h:Nat)))∧∀i,i<(chF h n).length→nextF (h:Nat) ((chF h n).getD i [])=(chF h n)[i+1]?:=next_ch2 ⟨h,by omega⟩ ⟨n,by omega⟩
theorem lost_pat:∀{a b:List Int},a.length=b.length→(∀i,i<a.length→(a.getD i 0<0↔b.getD i 0<0))→lostN a=lostN b∧∀c,frstL c a=frstL c b
 |[],[],_,_=>⟨rfl,fun c=>rfl⟩
 |[],y::b,h,_=>by simp at h
 |x::a,[],h,_=>by simp at h
 |x::a,y::b,h,hp=>by
  have h0:(x<0↔y<0):=hp 0 (by simp);obtain ⟨i1,i2⟩:=lost_pat (a:=a) (b:=b) (by simpa using h) fun i hi=>hp (i+1) (by rw[List.length_cons];omega);refine ⟨?_,fun c=>?_⟩
  ·unfold lostN;rw[i1];by_cases c:x<0
   ·rw[if_pos c,if_pos (h0.1 c)]
   ·rw[if_neg c,if_neg fun z=>c (h0.2 z)]
  ·cases c with
   |nil=>rfl
   |cons z c=>
    unfold frstL;rw[i2 c];by_cases c1:x<0
    ·have c2:=h0.1 c1;by_cases c3:z<0
     ·rw[if_neg (by omega),if_neg (by omega),if_neg (by omega),if_neg (by omega)]
     ·rw[if_neg (by omega),if_pos (by omega),if_neg (by omega),if_pos (by omega)]
    ·have c2:¬y<0:=fun z=>c1 (h0.2 z);by_cases c3:z<0
     ·rw[if_pos (by omega),if_pos (by omega)]
     ·rw[if_neg (by omega),if_neg (by omega),if_neg (by omega),if_neg (by omega)]
theorem less_pat {a b c:List Int} (h:a.length=b.length) (hp:∀i,i<a.length→(a.getD i 0<0↔b.getD i 0<0)):lessR c a=lessR c b:=by
 obtain ⟨h1,h2⟩:=lost_pat h hp;unfold lessR;rw[h1,h2]
theorem mem_lostF {o b:List Int} (hd:∀j,j<o.length→o.getD j 0∉o.take j) {i:Nat} (hi:i<o.length):o.getD i 0∈lostF o b↔b.getD i 0<0:=by
 have hij:∀{i j:Nat},i<o.length→j<i→o.getD j 0≠o.getD i 0:=fun {i j} hi hj e=>by
  refine hd i hi ?_;rw[←e];have hj':j<(o.take i).length:=by rw[List.length_take];omega
  have:(o.take i)[j]=o.getD j 0:=by
   rw[List.getElem_take];simp[List.getD,show j<o.length by omega]
  rw[←this];exact List.getElem_mem hj'
 unfold lostF;rw[List.mem_map];constructor
 ·rintro ⟨j,hj,e⟩;rw[List.mem_filter,List.mem_range,decide_eq_true_eq] at hj;rcases Nat.lt_trichotomy i j with c|c|c
  ·exact absurd e.symm (hij hj.1 c)
  ·rw[c];exact hj.2
  ·exact absurd e (hij hi c)
 ·intro h;exact ⟨i,List.mem_filter.2 ⟨List.mem_range.2 hi,decide_eq_true h⟩,rfl⟩
end T
end Go.Proofs.YtpocfbfmjippnaaGreat
end
