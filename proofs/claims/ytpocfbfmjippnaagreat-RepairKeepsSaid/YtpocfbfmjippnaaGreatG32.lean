/- Parts of the proof of the law; no condition. -/
import Derived.Test.YtpocfbfmjippnaaGreatG31
set_option linter.all false
section
namespace Go.Proofs.YtpocfbfmjippnaaGreat
namespace T
def kidF (w:DWorld) (hn:Nat) (go:List Int→List DPlan→DRep→DRep) (to:List Int) (q:Int) (n:Nat) (ps:List DPlan) (a:DRep) (k:Nat):DRep:=
 if (bstP w (ps.getD k dPln) q).2≠0 then (a.1,a.2++(chF hn n).map fun r=>(to++(k:Int)::r,(to.length:Int))) else go (to++[(k:Int)]) (ps.set k (bstP w (ps.getD k dPln) q).1) a
def lookF (w:DWorld) (hn:Nat):List Int→List Int→List DPlan→DRep→DRep
 |[],to,ps,a=>(leafR to ps (endsR w ps) a.1,a.2)
 |q::o,to,ps,a=>lookF w hn o (to++[-1]) ps ((List.range hn).foldl (kidF w hn (lookF w hn o) to q o.length ps) a)
def stepP (w:DWorld) (ps:List DPlan) (o to:List Int) (a:DRep) (r:List Int):DRep:=
 if 0≤(playR w ps o r to.length).2 then (a.1,a.2++[(to++r,(playR w ps o r to.length).2)]) else (leafR (to++r) (playR w ps o r to.length).1 (endsR w (playR w ps o r to.length).1) a.1,a.2)
theorem foldl_same {α β:Type} {f g:β→α→β} {l:List α} (h:∀x∈l,∀b,f b x=g b x):∀b,l.foldl f b=l.foldl g b:=by
 induction l with
 |nil=>intro b;rfl
 |cons x r ih=>
  intro b;rw[List.foldl_cons,List.foldl_cons,h x (.head _) b];exact ih (fun y hy=>h y (.tail _ hy)) _
theorem foldl_flat {α β γ:Type} (f:γ→β→γ) (g:α→List β):∀(l:List α) (c:γ),(l.flatMap g).foldl f c=l.foldl (fun c x=>(g x).foldl f c) c
 |[],c=>rfl
 |x::r,c=>by
  rw[List.flatMap_cons,List.foldl_append,List.foldl_cons];exact foldl_flat f g r _
theorem foldl_fail {β:Type} (g:β→DCase):∀(l:List β) (a:DRep),l.foldl (fun a r=>(a.1,a.2++[g r])) a=(a.1,a.2++l.map g)
 |[],a=>by rw[List.foldl_nil,List.map_nil,List.append_nil]
 |x::r,a=>by
  rw[List.foldl_cons,foldl_fail g r,List.map_cons];dsimp only;rw[List.append_assoc];rfl
theorem look_all (w:DWorld) (hn:Nat):∀(o to:List Int) (ps:List DPlan) (a:DRep),ps.length=hn→lookF w hn o to ps a=(chF hn o.length).foldl (stepP w ps o to) a
 |[],to,ps,a,h=>by
  show _=stepP w ps [] to a [];unfold stepP playR;rw[if_neg (show¬(0:Int)≤ -1 by decide),List.append_nil];rfl
 |q::o,to,ps,a,h=>by
  have e:chF hn (q::o).length=(digF hn).flatMap fun t=>(chF hn o.length).map (t:: ·):=rfl
  rw[e,foldl_flat];unfold digF;rw[List.foldl_append,List.foldl_map,List.foldl_cons,List.foldl_nil];have hneg:∀c:DRep,((chF hn o.length).map ((-1:Int):: ·)).foldl (stepP w ps (q::o) to) c=lookF w hn o (to++[-1]) ps c:=fun c=>by
   rw[look_all w hn o (to++[-1]) ps c h,List.foldl_map];refine foldl_same (fun r _ b=>?_) c;have e1:playR w ps (q::o) (-1::r) to.length=playR w ps o r (to++[-1]).length:=by
    rw[playR.eq_def];dsimp only;rw[if_pos (by decide),List.length_append,List.length_singleton,Int.natCast_add];rfl
   unfold stepP;rw[e1,List.append_assoc];rfl
  rw[hneg];show lookF w hn o (to++[-1]) ps _=_;congr 1;refine foldl_same (fun k hk b=>?_) a;have hk:=List.mem_range.1 hk;have e0:∀r,playR w ps (q::o) ((k:Int)::r) to.length=if (bstP w (ps.getD k dPln) q).2≠0 then ([],(to.length:Int)) else playR w (ps.set k (bstP w (ps.getD k dPln) q).1) o r (to.length+1:Int):=fun r=>by
   rw[playR.eq_def];dsimp only;rw[if_neg (by omega),Int.toNat_natCast]
  unfold kidF;rw[List.foldl_map];by_cases c:(bstP w (ps.getD k dPln) q).2≠0
  ·rw[if_pos c,←foldl_fail];refine foldl_same (fun r _ b=>?_) b;unfold stepP;rw[e0,if_pos c,if_pos (by omega)]
  ·rw[if_neg c,look_all w hn o _ _ b (by rw[List.length_set];exact h)];refine foldl_same (fun r _ b=>?_) b;have e1:playR w ps (q::o) ((k:Int)::r) to.length=playR w (ps.set k (bstP w (ps.getD k dPln) q).1) o r (to++[(k:Int)]).length:=by
    rw[e0,if_neg c,List.length_append,List.length_singleton,Int.natCast_add];rfl
   unfold stepP;rw[e1,List.append_assoc];rfl
theorem look_scan (w:DWorld) (hs:List DPlan) (o:List Int):lookF w hs.length o [] hs (none,[])=scanR w hs o:=by
 rw[look_all w hs.length o [] hs _ rfl];rfl
def fstF (h:Int):Int:=if h=0 then-1 else 0
def nextF (h:Int):List Int→Option (List Int)
 |[]=>none
 |t::r=>match nextF h r with
  |some r'=>some (t::r')
  |none=>if 0≤t then some ((if h≤t+1 then-1 else t+1)::List.replicate r.length (fstF h)) else none
theorem next_ch2:∀h:Fin 4,∀n:Fin 3,(chF h n)[0]?=some (List.replicate n (fstF (h:Nat)))∧∀i,i<(chF h n).length→nextF (h:Nat) ((chF h n).getD i [])=(chF h n)[i+1]?:=by decide
theorem next_ch {h n:Nat} (hh:h≤3) (hn:n≤2):(chF h n)[0]?=some (List.replicate n (fstF (h:Nat)))∧∀i,i<(chF h n).length→nextF (h:Nat) ((chF h n).getD i [])=(chF h n)[i+1]?:=next_ch2 ⟨h,by omega⟩ ⟨n,by omega⟩
theorem lost_pat:∀{a b:List Int},a.length=b.length→(∀i,i<a.length→(a.getD i 0<0↔b.getD i 0<0))→lostN a=lostN b∧∀c,frstL c a=frstL c b
 |[],[],_,_=>⟨rfl,fun c=>rfl⟩
 |[],y::b,h,_=>by simp at h
 |x::a,[],h,_=>by simp at h
 |x::a,y::b,h,hp=>by
  have h0:(x<0↔y<0):=hp 0 (by simp);obtain ⟨i1,i2⟩:=lost_pat (a:=a) (b:=b) (by simpa using h) fun i hi=>hp (i+1) (by rw[List.length_cons];omega);refine ⟨?_,fun c=>?_⟩
  ·unfold lostN;rw[i1];by_cases c:x<0
   ·rw[if_pos c,if_pos (h0.1 c)]
   ·rw[if_neg c,if_neg fun z=>c (h0.2 z)]
  ·cases c with
   |nil=>rfl
   |cons z c=>
    unfold frstL;rw[i2 c];by_cases c1:x<0
    ·have c2:=h0.1 c1;by_cases c3:z<0
     ·rw[if_neg (by omega),if_neg (by omega),if_neg (by omega),if_neg (by omega)]
     ·rw[if_neg (by omega),if_pos (by omega),if_neg (by omega),if_pos (by omega)]
    ·have c2:¬y<0:=fun z=>c1 (h0.2 z);by_cases c3:z<0
     ·rw[if_pos (by omega),if_pos (by omega)]
     ·rw[if_neg (by omega),if_neg (by omega),if_neg (by omega),if_neg (by omega)]
theorem less_pat {a b c:List Int} (h:a.length=b.length) (hp:∀i,i<a.length→(a.getD i 0<0↔b.getD i 0<0)):lessR c a=lessR c b:=by
 obtain ⟨h1,h2⟩:=lost_pat h hp;unfold lessR;rw[h1,h2]
theorem mem_lostF {o b:List Int} (hd:∀j,j<o.length→o.getD j 0∉o.take j) {i:Nat} (hi:i<o.length):o.getD i 0∈lostF o b↔b.getD i 0<0:=by
 have hij:∀{i j:Nat},i<o.length→j<i→o.getD j 0≠o.getD i 0:=fun {i j} hi hj e=>by
  refine hd i hi ?_;rw[←e];have hj':j<(o.take i).length:=by rw[List.length_take];omega
  have:(o.take i)[j]=o.getD j 0:=by
   rw[List.getElem_take];simp[List.getD,show j<o.length by omega]
  rw[←this];exact List.getElem_mem hj'
 unfold lostF;rw[List.mem_map];constructor
 ·rintro ⟨j,hj,e⟩;rw[List.mem_filter,List.mem_range,decide_eq_true_eq] at hj;rcases Nat.lt_trichotomy i j with c|c|c
  ·exact absurd e.symm (hij hj.1 c)
  ·rw[c];exact hj.2
  ·exact absurd e (hij hi c)
 ·intro h;exact ⟨i,List.mem_filter.2 ⟨List.mem_range.2 hi,decide_eq_true h⟩,rfl⟩
end T
end Go.Proofs.YtpocfbfmjippnaaGreat
end
