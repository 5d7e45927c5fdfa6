/- Parts of the proof of the law; no condition. -/
import Derived.Test.YtpocfbfmjippnaaGreatG33
set_option linter.all false
section
namespace Go.Proofs.YtpocfbfmjippnaaGreat
namespace T
theorem take_nx {α:Type} {d:α} {l:List α} {j:Nat} (h:j<l.length):l.take (j+1)=l.take j++[l.getD j d]:=by
 rw[List.take_succ_eq_append_getElem h];simp[List.getD,h]
theorem helpF_at {ps:List DPlan} {b:Int} {j:Nat} (h:j<ps.length):helpF (ps.take (j+1)) b=if (ps.getD j dPln).1=b then helpF (ps.take j) b else helpF (ps.take j) b++[ps.getD j dPln]:=by
 unfold helpF;rw[take_nx (d:=dPln) h,List.filter_append];by_cases c:(ps.getD j dPln).1=b
 ·rw[if_pos c,fil0 (P:=fun p:DPlan=>decide (p.1≠b)) (decide_eq_false fun z=>z c),List.append_nil]
 ·rw[if_neg c,fil1 (P:=fun p:DPlan=>decide (p.1≠b)) (decide_eq_true c)]
theorem helpF_len (ps:List DPlan) (b:Int):(helpF ps b).length≤ps.length:=List.length_filter_le _ _
theorem mem_helpF {ps:List DPlan} {b:Int} {p:DPlan}:p∈helpF ps b↔p∈ps∧p.1≠b:=by unfold helpF;rw[List.mem_filter,decide_eq_true_eq]
theorem lost_at {a:List Int} {j:Nat} (h:j<a.length):lostN (a.take (j+1))=lostN (a.take j)+if a.getD j 0<0 then 1 else 0:=by
 rw[take_nx (d:=0) h,lost_app];show _=lostN (a.take j)+_;congr 1;show (0:Int)+(if a.getD j 0<0 then 1 else 0)=_;rw[Int.zero_add]
theorem frst_app:∀(a b c d:List Int),a.length=b.length→frstL (a++c) (b++d)=if frstL a b=0 then frstL c d else frstL a b
 |[],[],c,d,_=>by
  rw[List.nil_append,List.nil_append];show frstL c d=if (0:Int)=0 then frstL c d else 0
  rw[if_pos rfl]
 |[],y::b,c,d,h=>by simp at h
 |x::a,[],c,d,h=>by simp at h
 |x::a,y::b,c,d,h=>by
  have ih:=frst_app a b c d (by simpa using h);have e:∀p q:List Int,frstL (x::p) (y::q)=if x<0∧0≤y then 1 else if 0≤x∧y<0 then-1 else frstL p q:=fun p q=>rfl
  rw[List.cons_append,List.cons_append,e,e];by_cases c1:x<0∧0≤y
  ·rw[if_pos c1,if_pos c1,if_neg (by decide)]
  ·rw[if_neg c1,if_neg c1];by_cases c2:0≤x∧y<0
   ·rw[if_pos c2,if_pos c2,if_neg (by decide)]
   ·rw[if_neg c2,if_neg c2];exact ih
theorem frst_at {a b:List Int} {j:Nat} (h:j<a.length) (h':j<b.length):frstL (a.take (j+1)) (b.take (j+1))=if frstL (a.take j) (b.take j)=0 then (if a.getD j 0<0∧0≤b.getD j 0 then 1 else if 0≤a.getD j 0∧b.getD j 0<0 then-1 else 0) else frstL (a.take j) (b.take j):=by
 rw[take_nx (d:=0) h,take_nx (d:=0) h',frst_app _ _ _ _ (by rw[List.length_take,List.length_take];omega)];rfl
def lostT (o b:List Int) (n:Nat):List Int:=((List.range n).filter fun i=>decide (b.getD i 0<0)).map fun i=>o.getD i 0
theorem lostT_at (o b:List Int) (n:Nat):lostT o b (n+1)=if b.getD n 0<0 then lostT o b n++[o.getD n 0] else lostT o b n:=by
 unfold lostT;rw[List.range_succ,List.filter_append,List.map_append];by_cases c:b.getD n 0<0
 ·rw[if_pos c,fil1 (P:=fun i:Nat=>decide (b.getD i 0<0)) (decide_eq_true c)];rfl
 ·rw[if_neg c,fil0 (P:=fun i:Nat=>decide (b.getD i 0<0)) (decide_eq_false c),List.map_nil,List.append_nil]
theorem lostT_all (o b:List Int):lostT o b o.length=lostF o b:=rfl
theorem lostT_len (o b:List Int) (n:Nat):(lostT o b n).length≤n:=by
 unfold lostT;rw[List.length_map];exact Nat.le_trans (List.length_filter_le _ _) (by rw[List.length_range];exact Nat.le_refl _)
theorem endsR_app (w:DWorld):∀a b:List DPlan,endsR w (a++b)=endsR w a+endsR w b
 |[],b=>by rw[List.nil_append];show _=0+_;omega
 |x::a,b=>by
  rw[List.cons_append];show (endP w x).1+endsR w (a++b)=(endP w x).1+endsR w a+endsR w b;rw[endsR_app w a b];omega
theorem endsR_at {w:DWorld} {ps:List DPlan} {j:Nat} (h:j<ps.length):endsR w (ps.take (j+1))=endsR w (ps.take j)+(endP w (ps.getD j dPln)).1:=by
 rw[take_nx (d:=dPln) h,endsR_app];show endsR w (ps.take j)+((endP w (ps.getD j dPln)).1+0)=_;omega
theorem endsR_rng (w:DWorld):∀l:List DPlan,0≤endsR w l∧endsR w l≤134217728*l.length
 |[]=>⟨Int.le_refl _,by show (0:Int)≤134217728*((0:Nat):Int);decide⟩
 |p::l=>by
  have h1:=endsR_rng w l;have h2:=end_rng w p;unfold endF at h2;show 0≤(endP w p).1+endsR w l∧(endP w p).1+endsR w l≤134217728*((l.length+1:Nat):Int);omega
theorem rightR_iff {w:DWorld} {ps:List DPlan} {b:Int} {o:List Int}:rightR38 w ps b o=true↔RightR w ps b o:=by unfold rightR38;exact decide_eq_true_iff
def GoodR (w:DWorld) (ps:List DPlan) (b:Int) (o:List Int) (n:Nat):Prop:=∀j,j<n→(checkP w (ps.getD j dPln)=0∧∀i,i<j→(ps.getD i dPln).1≠(ps.getD j dPln).1)∧((ps.getD j dPln).1≠b→∀s∈(ps.getD j dPln).2.1,s.1∉o)
def OrdR (w:DWorld) (o:List Int) (n:Nat):Prop:=∀j,j<n→(0≤o.getD j 0∧o.getD j 0<(w.2.2.2.1.length:Int))∧o.getD j 0∉o.take j
theorem GoodR.next {w:DWorld} {ps:List DPlan} {b:Int} {o:List Int} {n:Nat} (h:GoodR w ps b o n) (h1:checkP w (ps.getD n dPln)=0) (h2:∀i,i<n→(ps.getD i dPln).1≠(ps.getD n dPln).1) (h3:(ps.getD n dPln).1≠b→∀s∈(ps.getD n dPln).2.1,s.1∉o):GoodR w ps b o (n+1):=fun j hj=>by
 by_cases c:j=n
 ·subst c;exact ⟨⟨h1,h2⟩,h3⟩
 ·exact h j (by omega)
theorem OrdR.next {w:DWorld} {o:List Int} {n:Nat} (h:OrdR w o n) (h1:0≤o.getD n 0) (h2:o.getD n 0<(w.2.2.2.1.length:Int)) (h3:o.getD n 0∉o.take n):OrdR w o (n+1):=fun j hj=>by
 by_cases c:j=n
 ·subst c;exact ⟨⟨h1,h2⟩,h3⟩
 ·exact h j (by omega)
theorem rightR_no {w:DWorld} {ps:List DPlan} {b:Int} {o:List Int} (h:¬RightR w ps b o):rightR38 w ps b o=false:=by
 rw[←Bool.not_eq_true,rightR_iff];exact h
theorem rightR_yes {w:DWorld} {ps:List DPlan} {b:Int} {o:List Int} (h:RightR w ps b o):rightR38 w ps b o=true:=rightR_iff.2 h
theorem kid_at (w:DWorld) (hn:Nat) (go:List Int→List DPlan→DRep→DRep) (to:List Int) (q:Int) (n:Nat) (ps:List DPlan) (a:DRep):∃B:Nat→DRep,B 0=a∧(∀k:Nat,B (k+1)=kidF w hn go to q n ps (B k) k)∧(List.range hn).foldl (kidF w hn go to q n ps) a=B hn:=by
 refine ⟨fun k=>(List.range k).foldl (kidF w hn go to q n ps) a,rfl,fun k=>?_,rfl⟩;show (List.range (k+1)).foldl _ a=_;rw[List.range_succ,List.foldl_append];rfl
structure OkA (m:Nat) (a:DRep):Prop where
 best:∀x,a.1=some x→x.1.length=m
 fails:∀c∈a.2,c.1.length=m
theorem OkA.zero (m:Nat):OkA m (none,[]):=⟨fun x h=>(by cases h),fun c h=>absurd h (by simp)⟩
theorem OkA.leaf {m:Nat} {a:DRep} (h:OkA m a) {to:List Int} (ht:to.length=m) (ps:List DPlan) (n:Int):OkA m (leafR to ps n a.1,a.2):=by
 refine ⟨fun x hx=>?_,h.fails⟩;dsimp only at hx;unfold leafR at hx;cases hb:a.1 with
 |none=>rw[hb] at hx;cases hx;exact ht
 |some y=>
  rw[hb] at hx;dsimp only at hx;split at hx
  ·cases hx;exact ht
  ·cases hx;exact h.best _ hb
theorem ch_len (h:Nat):∀n,(chF h n).length=(h+1)^n
 |0=>rfl
 |n+1=>by
  have e:∀l:List Int,(l.flatMap fun t=>(chF h n).map (t:: ·)).length=l.length*(chF h n).length:=by
   intro l;induction l with
   |nil=>simp
   |cons t r ih=>rw[List.flatMap_cons,List.length_append,List.length_map,ih,List.length_cons,Nat.succ_mul,Nat.add_comm]
  show ((digF h).flatMap fun t=>(chF h n).map (t:: ·)).length=_
  rw[e,ch_len h n];unfold digF;rw[List.length_append,List.length_map,List.length_range,List.length_singleton,Nat.pow_succ,Nat.mul_comm]
theorem OkA.fail {m:Nat} {a:DRep} (h:OkA m a) (hn n:Nat) {to:List Int} (k:Int) (i:Int) (ht:to.length+1+n=m):OkA m (a.1,a.2++(chF hn n).map fun r=>(to++k::r,i)):=by
 refine ⟨h.best,fun c hc=>?_⟩;rcases List.mem_append.1 hc with hc|hc
 ·exact h.fails c hc
 ·obtain ⟨r,hr,rfl⟩:=List.mem_map.1 hc;have:=(mem_ch.1 hr).1;rw[List.length_append,List.length_cons];omega
theorem OkA.kid {m:Nat} {w:DWorld} {hn:Nat} {go:List Int→List DPlan→DRep→DRep} {to:List Int} {q:Int} {n:Nat} {ps:List DPlan} (ht:to.length+1+n=m) (hg:∀t p a,t.length+n=m→OkA m a→OkA m (go t p a)) {a:DRep} (h:OkA m a) (k:Nat):OkA m (kidF w hn go to q n ps a k):=by
 unfold kidF;split
 ·exact h.fail hn n k _ ht
 ·exact hg _ _ _ (by rw[List.length_append,List.length_singleton];exact ht) h
theorem OkA.fold {α:Type} {m:Nat} {f:DRep→α→DRep} (hf:∀a x,OkA m a→OkA m (f a x)):∀(l:List α) (a:DRep),OkA m a→OkA m (l.foldl f a)
 |[],a,h=>h
 |x::l,a,h=>OkA.fold hf l _ (hf a x h)
theorem OkA.look {m:Nat} (w:DWorld) (hn:Nat):∀(o to:List Int) (ps:List DPlan) (a:DRep),to.length+o.length=m→OkA m a→OkA m (lookF w hn o to ps a)
 |[],to,ps,a,ht,h=>h.leaf (by simpa using ht) _ _
 |q::o,to,ps,a,ht,h=>by
  rw[List.length_cons] at ht;show OkA m (lookF w hn o (to++[-1]) ps _);refine OkA.look w hn o _ _ _ (by rw[List.length_append,List.length_singleton];omega) (OkA.fold (fun a k h=>?_) _ _ h);exact OkA.kid (by omega) (fun t p a ht h=>OkA.look w hn o t p a ht h) h k
theorem kid_len {w:DWorld} {hn:Nat} {go:List Int→List DPlan→DRep→DRep} {to:List Int} {q:Int} {n:Nat} {ps:List DPlan} (hg:∀t p a,(go t p a).2.length≤a.2.length+(hn+1)^n) (a:DRep) (k:Nat):(kidF w hn go to q n ps a k).2.length≤a.2.length+(hn+1)^n:=by
 unfold kidF;split
 ·dsimp only;rw[List.length_append,List.length_map,ch_len];exact Nat.le_refl _
 ·exact hg _ _ _
theorem fold_len {α:Type} {f:DRep→α→DRep} {c:Nat} (hf:∀a x,(f a x).2.length≤a.2.length+c):∀(l:List α) (a:DRep),(l.foldl f a).2.length≤a.2.length+l.length*c
 |[],a=>by simp
 |x::l,a=>by
  have h1:=fold_len hf l (f a x);have h2:=hf a x;rw[List.foldl_cons,List.length_cons,Nat.succ_mul];omega
theorem look_len (w:DWorld) (hn:Nat):∀(o to:List Int) (ps:List DPlan) (a:DRep),(lookF w hn o to ps a).2.length≤a.2.length+(hn+1)^o.length
 |[],to,ps,a=>by show a.2.length≤_;omega
 |q::o,to,ps,a=>by
  show (lookF w hn o (to++[-1]) ps _).2.length≤_;have h1:=look_len w hn o (to++[-1]) ps ((List.range hn).foldl (kidF w hn (lookF w hn o) to q o.length ps) a);have h2:=fold_len (kid_len (w:=w) (hn:=hn) (to:=to) (q:=q) (ps:=ps) (look_len w hn o)) (List.range hn) a;rw[List.length_range] at h2;rw[List.length_cons,Nat.pow_succ];have e:hn*(hn+1)^o.length+(hn+1)^o.length=(hn+1)^o.length*(hn+1):=by rw[Nat.mul_succ,Nat.mul_comm]
  omega
theorem best_bad {w:DWorld} {ps:List DPlan} {b:Int} {o:List Int} (h:rightR38 w ps b o=false):bestR w ps b o=([],[],[],1):=by unfold bestR;rw[if_pos h]
theorem best_full {w:DWorld} {ps:List DPlan} {b:Int} {o:List Int} (h:rightR38 w ps b o=true) (hf:4<o.length∨3<(helpF ps b).length):bestR w ps b o=([],[],[],6):=by
 unfold bestR;rw[if_neg (by rw[h];decide),if_pos hf]
theorem best_ok {w:DWorld} {ps:List DPlan} {b:Int} {o:List Int} (h:rightR38 w ps b o=true) (hf:¬(4<o.length∨3<(helpF ps b).length)):∃x F,scanR w (helpF ps b) o=(some x,F)∧bestR w ps b o=(x.2.1,lostF o x.1,F.filter fun c=>decide (lessR c.1 x.1<0),0):=by
 obtain ⟨x,hx⟩:=scan_best w (helpF ps b) o;refine ⟨x,(scanR w (helpF ps b) o).2,Prod.ext hx rfl,?_⟩;unfold bestR;rw[if_neg (by rw[h];decide),if_neg hf,hx]
theorem bst_len {w:DWorld} {p:DPlan} {q:Int} (h:(bstP w p q).2=0):(bstP w p q).1.2.1.length=p.2.1.length+2∧checkP w (bstP w p q).1=0:=by
 obtain ⟨a,b,hab,hb,_,h2,h3⟩:=bst_ok h;rw[h3,stopsI_length hab hb];exact ⟨rfl,h2⟩
def dropC (b:List Int) (c:DCase):Bool:=decide (lessP c.1 b≥0)
def keepC (b:List Int) (L:List DCase):List DCase:=L.filter fun c=>!dropC b c
theorem keep_eq (b:List Int) (L:List DCase):(L.filter fun c=>decide (lessR c.1 b<0))=keepC b L:=by
 unfold keepC;refine List.filter_congr fun c _=>?_;have:=(less_sign c.1 b).1;unfold dropC;by_cases h:lessP c.1 b<0
 ·rw[decide_eq_true (this.1 h),decide_eq_false (by omega)];rfl
 ·rw[decide_eq_false (fun z=>h (this.2 z)),decide_eq_true (by omega)];rfl
theorem keep_at {b:List Int} {L:List DCase} {j:Nat} (h:j<L.length):keepC b (L.take (j+1))=if dropC b (L.getD j dCase)=true then keepC b (L.take j) else keepC b (L.take j)++[L.getD j dCase]:=by
 unfold keepC;rw[take_nx (d:=dCase) h,List.filter_append];cases c:dropC b (L.getD j dCase) with
 |true=>rw[if_pos rfl,fil0 (P:=fun c=>!dropC b c) (by rw[c];rfl),List.append_nil]
 |false=>rw[if_neg (by decide),fil1 (P:=fun c=>!dropC b c) (by rw[c];rfl)]
theorem keep_len (b:List Int) (L:List DCase):(keepC b L).length≤L.length:=List.length_filter_le _ _
theorem keep_none {b:List Int} {L:List DCase} (h:∀j,j<L.length→dropC b (L.getD j dCase)=false):keepC b L=L:=by
 unfold keepC;refine List.filter_eq_self.2 fun c hc=>?_;obtain ⟨j,hj,rfl⟩:=List.getElem_of_mem hc;have:=h j hj;rw[show L.getD j dCase=L[j] by simp[List.getD,hj]] at this;rw[this];rfl
end T
end Go.Proofs.YtpocfbfmjippnaaGreat
end
