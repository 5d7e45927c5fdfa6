/- Parts of the proof of the law; no condition. -/
import Derived.Test.YtpocfbfmjippnaaGreatH28
set_option linter.all false
section
namespace Go.Proofs.YtpocfbfmjippnaaGreat
namespace T
@[reducible] def dPln:DPlan:=(0,[],[],[])
abbrev DCase:=List Int×Int
@[reducible] def dCase:DCase:=([],0)
def helpF (ps:List DPlan) (b:Int):List DPlan:=ps.filter fun p=>decide (p.1≠b)
def RightR (w:DWorld) (ps:List DPlan) (b:Int) (o:List Int):Prop:=rightP w=true∧0≤b∧b<(w.2.2.1.length:Int)∧(∀j,j<ps.length→(checkP w (ps.getD j dPln)=0∧∀i,i<j→(ps.getD i dPln).1≠(ps.getD j dPln).1)∧((ps.getD j dPln).1≠b→∀s∈(ps.getD j dPln).2.1,s.1∉o))∧
 ∀j,j<o.length→(0≤o.getD j 0∧o.getD j 0<(w.2.2.2.1.length:Int))∧o.getD j 0∉o.take j
instance (w:DWorld) (ps:List DPlan) (b:Int) (o:List Int):Decidable (RightR w ps b o):=by unfold RightR;infer_instance
def rightR38 (w:DWorld) (ps:List DPlan) (b:Int) (o:List Int):Bool:=decide (RightR w ps b o)
def lostN:List Int→Int
 |[]=>0
 |x::r=>lostN r+if x<0 then 1 else 0
def frstL:List Int→List Int→Int
 |x::a,y::b=>if x<0∧0≤y then 1 else if 0≤x∧y<0 then-1 else frstL a b
 |_,_=>0
def lessP (a b:List Int):Int:=if lostN a-lostN b≠0 then lostN a-lostN b else frstL a b
def lessR (a b:List Int):Int:=if lostN a<lostN b then-1 else if lostN b<lostN a then 1 else frstL a b
theorem less_sign (a b:List Int):(lessP a b<0↔lessR a b<0)∧(lessP a b=0↔lessR a b=0):=by
 unfold lessP lessR;by_cases h:lostN a-lostN b≠0
 ·rw[if_pos h];by_cases c:lostN a<lostN b
  ·rw[if_pos c];omega
  ·rw[if_neg c,if_pos (by omega)];omega
 ·rw[if_neg h,if_neg (by omega),if_neg (by omega)];exact ⟨Iff.rfl,Iff.rfl⟩
theorem lost_rng:∀a:List Int,0≤lostN a∧lostN a≤a.length
 |[]=>⟨Int.le_refl _,Int.le_refl _⟩
 |x::r=>by
  have:=lost_rng r;unfold lostN;rw[List.length_cons];split<;>omega
def patN:List Int→Int
 |[]=>0
 |x::r=>patN r+if x<0 then 2^r.length else 0
theorem pat_rng:∀a:List Int,0≤patN a∧patN a<2^a.length
 |[]=>⟨Int.le_refl _,by decide⟩
 |x::r=>by
  have h:=pat_rng r;unfold patN;rw[List.length_cons,Int.pow_succ];split<;>omega
theorem early_pat:∀a b:List Int,a.length=b.length→(frstL a b<0↔patN a<patN b)∧(frstL a b=0↔patN a=patN b)
 |[],[],_=>⟨⟨fun h=>absurd h (by decide),fun h=>absurd h (by decide)⟩,Iff.rfl.trans ⟨fun _=>rfl,fun _=>rfl⟩⟩
 |[],y::b,h=>by simp at h
 |x::a,[],h=>by simp at h
 |x::a,y::b,h=>by
  have hl:a.length=b.length:=by simpa using h
  have ih:=early_pat a b hl;have ra:=pat_rng a;have rb:=pat_rng b;rw[hl] at ra;unfold frstL patN;rw[hl];generalize (2:Int)^b.length=z at ra rb;by_cases h1:x<0
  ·by_cases h2:y<0
   ·rw[if_neg (by omega),if_neg (by omega),if_pos h1,if_pos h2];exact ⟨ih.1.trans (by omega),ih.2.trans (by omega)⟩
   ·rw[if_pos (by omega),if_pos h1,if_neg h2];exact ⟨by omega,by omega⟩
  ·by_cases h2:y<0
   ·rw[if_neg (by omega),if_pos (by omega),if_neg h1,if_pos h2];exact ⟨by omega,by omega⟩
   ·rw[if_neg (by omega),if_neg (by omega),if_neg h1,if_neg h2];exact ⟨ih.1.trans (by omega),ih.2.trans (by omega)⟩
def keyN (a:List Int):Int:=lostN a*2^a.length+patN a
theorem less_key {a b:List Int} (h:a.length=b.length):(lessR a b<0↔keyN a<keyN b)∧(lessR a b=0↔keyN a=keyN b):=by
 have he:=early_pat a b h;have ra:=pat_rng a;have rb:=pat_rng b;unfold keyN lessR;rw[h] at ra⊢;generalize (2:Int)^b.length=z at ra rb;by_cases c1:lostN a<lostN b
 ·rw[if_pos c1];have:(lostN a+1)*z≤lostN b*z:=Int.mul_le_mul_of_nonneg_right (by omega) (by omega);rw[Int.add_mul,Int.one_mul] at this;omega
 ·rw[if_neg c1];by_cases c2:lostN b<lostN a
  ·rw[if_pos c2];have:(lostN b+1)*z≤lostN a*z:=Int.mul_le_mul_of_nonneg_right (by omega) (by omega);rw[Int.add_mul,Int.one_mul] at this;omega
  ·rw[if_neg c2];have e:lostN a=lostN b:=by omega
   rw[e];exact ⟨he.1.trans (by omega),he.2.trans (by omega)⟩
def digF (h:Nat):List Int:=((List.range h).map fun k:Nat=>(k:Int))++[-1]
def chF (h:Nat):Nat→List (List Int)
 |0=>[[]]
 |n+1=>(digF h).flatMap fun t=>(chF h n).map (t:: ·)
theorem mem_dig {h:Nat} {t:Int}:t∈digF h↔t= -1∨∃k:Nat,k<h∧t=k:=by
 unfold digF;rw[List.mem_append,List.mem_singleton,List.mem_map];constructor
 ·rintro (⟨k,hk,rfl⟩|e)
  ·exact .inr ⟨k,List.mem_range.1 hk,rfl⟩
  ·exact .inl e
 ·rintro (e|⟨k,hk,rfl⟩)
  ·exact .inr e
  ·exact .inl ⟨k,List.mem_range.2 hk,rfl⟩
theorem mem_ch {h:Nat}:∀{n:Nat} {to:List Int},to∈chF h n↔to.length=n∧∀t∈to,t∈digF h
 |0,to=>by
  unfold chF;rw[List.mem_singleton];constructor
  ·rintro rfl;exact ⟨rfl,fun t ht=>absurd ht (by simp)⟩
  ·rintro ⟨h1,_⟩;exact List.eq_nil_of_length_eq_zero h1
 |n+1,to=>by
  unfold chF;rw[List.mem_flatMap];constructor
  ·rintro ⟨t,ht,hm⟩;obtain ⟨r,hr,rfl⟩:=List.mem_map.1 hm;obtain ⟨h1,h2⟩:=mem_ch.1 hr;refine ⟨by simp[h1],fun x hx=>?_⟩;rcases List.mem_cons.1 hx with rfl|hx
   ·exact ht
   ·exact h2 x hx
  ·rintro ⟨h1,h2⟩;cases to with
   |nil=>simp at h1
   |cons t r=>exact ⟨t,h2 t (.head _),List.mem_map.2 ⟨r,mem_ch.2 ⟨by simpa using h1,fun x hx=>h2 x (.tail _ hx)⟩,rfl⟩⟩
def bstP (w:DWorld) (p:DPlan) (r:Int):DPlan×Int:=((bestF w p r).1,(bestF w p r).2.2.2.2)
def playR (w:DWorld):List DPlan→List Int→List Int→Int→List DPlan×Int
 |ps,q::o,t::to,i=>if t<0 then playR w ps o to (i+1) else if (bstP w (ps.getD t.toNat dPln) q).2≠0 then ([],i) else playR w (ps.set t.toNat (bstP w (ps.getD t.toNat dPln) q).1) o to (i+1)
 |ps,_,_,_=>(ps,-1)
def endsR (w:DWorld):List DPlan→Int
 |[]=>0
 |p::r=>(endP w p).1+endsR w r
abbrev DRep:=Option (List Int×List DPlan×Int)×List DCase
def leafR (to:List Int) (ps:List DPlan) (n:Int) (b:Option (List Int×List DPlan×Int)):Option (List Int×List DPlan×Int):=match b with
 |none=>some (to,ps,n)
 |some x=>if lessR to x.1<0∨lessR to x.1=0∧n<x.2.2 then some (to,ps,n) else some x
def stepR (w:DWorld) (hs:List DPlan) (o:List Int) (a:DRep) (to:List Int):DRep:=if 0≤(playR w hs o to 0).2 then (a.1,a.2++[(to,(playR w hs o to 0).2)]) else (leafR to (playR w hs o to 0).1 (endsR w (playR w hs o to 0).1) a.1,a.2)
def scanR (w:DWorld) (hs:List DPlan) (o:List Int):DRep:=(chF hs.length o.length).foldl (stepR w hs o) (none,[])
def lostF (o:List Int) (b:List Int):List Int:=((List.range o.length).filter fun i=>decide (b.getD i 0<0)).map fun i=>o.getD i 0
def bestR (w:DWorld) (ps:List DPlan) (b:Int) (o:List Int):List DPlan×List Int×List DCase×Int:=
 if rightR38 w ps b o=false then ([],[],[],1) else if 4<o.length∨3<(helpF ps b).length then ([],[],[],6)
 else match (scanR w (helpF ps b) o).1 with
  |none=>([],[],[],0)
  |some x=>(x.2.1,lostF o x.1,(scanR w (helpF ps b) o).2.filter fun c=>decide (lessR c.1 x.1<0),0)
theorem play_none (w:DWorld):∀(o:List Int) (n:Nat) (ps:List DPlan) (i:Int),playR w ps o (List.replicate n (-1)) i=(ps,-1)
 |[],n,ps,i=>by unfold playR;rfl
 |q::o,0,ps,i=>by unfold playR;rfl
 |q::o,n+1,ps,i=>by
  rw[List.replicate_succ];unfold playR;rw[if_pos (by decide)];exact play_none w o n ps (i+1)
theorem play_rng (w:DWorld):∀(o to:List Int) (ps:List DPlan) (i:Int),(playR w ps o to i).2= -1∨i≤(playR w ps o to i).2∧(playR w ps o to i).2<i+o.length
 |[],to,ps,i=>by unfold playR;exact .inl rfl
 |q::o,[],ps,i=>by unfold playR;exact .inl rfl
 |q::o,t::to,ps,i=>by
  unfold playR;rw[List.length_cons];split
  ·rcases play_rng w o to ps (i+1) with h|h
   ·exact .inl h
   ·exact .inr (by omega)
  ·split
   ·exact .inr ⟨Int.le_refl _,by dsimp only;omega⟩
   ·rcases play_rng w o to (ps.set t.toNat (bstP w (ps.getD t.toNat dPln) q).1) (i+1) with h|h
    ·exact .inl h
    ·exact .inr (by omega)
theorem play_len (w:DWorld):∀(o to:List Int) (ps:List DPlan) (i:Int),0≤i→(playR w ps o to i).2= -1→(playR w ps o to i).1.length=ps.length
 |[],to,ps,i,_,h=>by unfold playR;rfl
 |q::o,[],ps,i,_,h=>by unfold playR;rfl
 |q::o,t::to,ps,i,hi,h=>by
  unfold playR at h⊢;by_cases c:t<0
  ·rw[if_pos c] at h⊢;exact play_len w o to ps (i+1) (by omega) h
  ·rw[if_neg c] at h⊢;by_cases d:(bstP w (ps.getD t.toNat dPln) q).2≠0
   ·rw[if_pos d] at h;have h:i= -1:=h;omega
   ·rw[if_neg d] at h⊢;rw[play_len w o to _ (i+1) (by omega) h,List.length_set]
structure ScanR (w:DWorld) (hs:List DPlan) (o:List Int) (L:List (List Int)) (a:DRep):Prop where
 fails:a.2=(L.filter fun to=>decide (0≤(playR w hs o to 0).2)).map fun to=>(to,(playR w hs o to 0).2)
 none:a.1=none↔ ∀to∈L,0≤(playR w hs o to 0).2
 some:∀x,a.1=some x→x.1∈L∧(playR w hs o x.1 0).2<0∧x.2.1=(playR w hs o x.1 0).1∧x.2.2=endsR w x.2.1∧∀to∈L,(playR w hs o to 0).2<0→keyN x.1<keyN to∨keyN x.1=keyN to∧x.2.2≤endsR w (playR w hs o to 0).1
theorem scan_step {w:DWorld} {hs:List DPlan} {o:List Int} {n:Nat} {L:List (List Int)} {a:DRep} {to:List Int} (hL:∀x∈L,x.length=n) (ht:to.length=n) (h:ScanR w hs o L a):ScanR w hs o (L++[to]) (stepR w hs o a to):=by
 obtain ⟨h1,h2,h3⟩:=h;unfold stepR;by_cases c:0≤(playR w hs o to 0).2
 ·rw[if_pos c];refine ⟨?_,?_,fun x hx=>?_⟩
  ·dsimp only;rw[h1,List.filter_append,List.map_append];congr 1;simp[c]
  ·dsimp only;rw[h2];constructor
   ·intro q x hx;rcases List.mem_append.1 hx with hx|hx
    ·exact q x hx
    ·rw[List.mem_singleton.1 hx];exact c
   ·exact fun q x hx=>q x (List.mem_append.2 (.inl hx))
  ·obtain ⟨q1,q2,q3,q4,q5⟩:=h3 x hx;refine ⟨List.mem_append.2 (.inl q1),q2,q3,q4,fun y hy hy0=>?_⟩;rcases List.mem_append.1 hy with hy|hy
   ·exact q5 y hy hy0
   ·rw[List.mem_singleton.1 hy] at hy0;omega
 ·rw[if_neg c];have hmem:to∈L++[to]:=List.mem_append.2 (.inr (.head _));refine ⟨?_,?_,fun x hx=>?_⟩
  ·dsimp only;have e:[to].filter (fun to=>decide (0≤(playR w hs o to 0).2))=[]:=by simp[c]
   rw[h1,List.filter_append,e,List.append_nil]
  ·dsimp only;constructor
   ·intro q;unfold leafR at q;cases hb:a.1 with
    |none=>rw[hb] at q;cases q
    |some y=>rw[hb] at q;dsimp only at q;split at q<;>cases q
   ·exact fun q=>absurd (q to hmem) c
  ·dsimp only at hx;unfold leafR at hx;cases hb:a.1 with
   |none=>
    rw[hb] at hx;dsimp only at hx;cases hx;refine ⟨hmem,by show (playR w hs o to 0).2<0;omega,rfl,rfl,fun y hy hy0=>?_⟩;rcases List.mem_append.1 hy with hy|hy
    ·have:=(h2.1 hb) y hy;omega
    ·rw[List.mem_singleton.1 hy];exact .inr ⟨rfl,Int.le_refl _⟩
   |some y=>
    obtain ⟨q1,q2,q3,q4,q5⟩:=h3 y hb;have hk:=less_key (a:=to) (b:=y.1) (by rw[ht,hL _ q1]);rw[hb] at hx;dsimp only at hx;split at hx
    ·rename_i d;cases hx;refine ⟨hmem,by show (playR w hs o to 0).2<0;omega,rfl,rfl,fun z hz hz0=>?_⟩;dsimp only;rcases List.mem_append.1 hz with hz|hz
     ·have h5:=q5 z hz hz0;rcases d with d|⟨d1,d2⟩
      ·have:=hk.1.1 d;omega
      ·have:=hk.2.1 d1;omega
     ·rw[List.mem_singleton.1 hz];exact .inr ⟨rfl,Int.le_refl _⟩
    ·rename_i d;have e:=Option.some.inj hx;subst e;refine ⟨List.mem_append.2 (.inl q1),q2,q3,q4,fun z hz hz0=>?_⟩;rcases List.mem_append.1 hz with hz|hz
     ·exact q5 z hz hz0
     ·rw[List.mem_singleton.1 hz];have d1:¬lessR to y.1<0:=fun q=>d (.inl q);rw[hk.1] at d1;by_cases e:keyN to=keyN y.1
      ·refine .inr ⟨e.symm,Int.not_lt.1 fun q=>d (.inr ⟨hk.2.2 e,q⟩)⟩
      ·exact .inl (by omega)
theorem scan_all (w:DWorld) (hs:List DPlan) (o:List Int) {n:Nat}:∀(M L:List (List Int)) (a:DRep),(∀x∈L,x.length=n)→(∀x∈M,x.length=n)→ScanR w hs o L a→ScanR w hs o (L++M) (M.foldl (stepR w hs o) a)
 |[],L,a,_,_,h=>by rw[List.append_nil];exact h
 |to::M,L,a,hL,hM,h=>by
  rw[List.foldl_cons,show L++to::M=(L++[to])++M by rw[List.append_assoc];rfl];refine scan_all w hs o M (L++[to]) _ (fun x hx=>?_) (fun x hx=>hM x (.tail _ hx)) (scan_step hL (hM to (.head _)) h);rcases List.mem_append.1 hx with hx|hx
  ·exact hL x hx
  ·rw[List.mem_singleton.1 hx];exact hM to (.head _)
theorem scan_is (w:DWorld) (hs:List DPlan) (o:List Int):ScanR w hs o (chF hs.length o.length) (scanR w hs o):=by
 have h:=scan_all w hs o (n:=o.length) (chF hs.length o.length) [] (none,[]) (fun x hx=>absurd hx (by simp)) (fun x hx=>(mem_ch.1 hx).1) ⟨rfl,⟨fun _ x hx=>absurd hx (by simp),fun _=>rfl⟩,fun x hx=>by cases hx⟩;rwa [List.nil_append] at h
theorem none_mem (h n:Nat):List.replicate n (-1)∈chF h n:=mem_ch.2 ⟨List.length_replicate,fun t ht=>mem_dig.2 (.inl (List.eq_of_mem_replicate ht))⟩
theorem scan_best (w:DWorld) (hs:List DPlan) (o:List Int):∃x,(scanR w hs o).1=some x:=by
 cases h:(scanR w hs o).1 with
 |none=>
  have:=(scan_is w hs o).none.1 h _ (none_mem hs.length o.length);rw[play_none] at this;have this:(0:Int)≤ -1:=this;exact absurd this (by decide)
 |some x=>exact ⟨x,rfl⟩
end T
end Go.Proofs.YtpocfbfmjippnaaGreat
end
