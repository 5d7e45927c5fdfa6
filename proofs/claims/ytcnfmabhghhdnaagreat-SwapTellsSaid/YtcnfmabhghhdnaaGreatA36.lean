/- Parts of the proof of the law; no condition. -/
import Derived.Test.YtcnfmabhghhdnaaGreatA35
set_option linter.all false
section
namespace Go.Proofs.YtcnfmabhghhdnaaGreat
namespace T
theorem scan_spec (mk:Int→List DStop→DPlan×Int) (en:DPlan→Int) (ps:List DPlan):∀(l:List DMove) (a:DAcc),(l.foldl (stepG mk en ps) a).2≤a.2∧(∀m∈l,(movedG mk ps m).2=0→(l.foldl (stepG mk en ps) a).2≤totG en (movedG mk ps m).1 (movedG mk ps m).1.length)∧
  (l.foldl (stepG mk en ps) a=a∨∃m∈l,l.foldl (stepG mk en ps) a=(some (m,(movedG mk ps m).1),totG en (movedG mk ps m).1 (movedG mk ps m).1.length)∧(movedG mk ps m).2=0∧totG en (movedG mk ps m).1 (movedG mk ps m).1.length<a.2)
 |[],a=>⟨Int.le_refl _,fun m hm=>absurd hm (by simp),.inl rfl⟩
 |m::l,a=>by
  rw[List.foldl_cons];obtain ⟨h1,h2,h3⟩:=scan_spec mk en ps l (stepG mk en ps a m);have hs:(stepG mk en ps a m).2≤a.2∧((movedG mk ps m).2=0→(stepG mk en ps a m).2≤totG en (movedG mk ps m).1 (movedG mk ps m).1.length)∧(stepG mk en ps a m=a∨stepG mk en ps a m=(some (m,(movedG mk ps m).1),totG en (movedG mk ps m).1 (movedG mk ps m).1.length)∧(movedG mk ps m).2=0∧totG en (movedG mk ps m).1 (movedG mk ps m).1.length<a.2):=by
   unfold stepG;by_cases c:(movedG mk ps m).2=0∧totG en (movedG mk ps m).1 (movedG mk ps m).1.length<a.2
   ·rw[if_pos c];exact ⟨by dsimp only;omega,fun _=>Int.le_refl _,.inr ⟨rfl,c.1,c.2⟩⟩
   ·rw[if_neg c];exact ⟨Int.le_refl _,fun h=>by omega,.inl rfl⟩
  obtain ⟨s1,s2,s3⟩:=hs;refine ⟨by omega,fun x hx hx0=>?_,?_⟩
  ·rcases List.mem_cons.1 hx with rfl|hx
   ·exact Int.le_trans h1 (s2 hx0)
   ·exact h2 x hx hx0
  ·rcases h3 with h3|⟨x,hx,e1,e2,e3⟩
   ·rcases s3 with s3|⟨e1,e2,e3⟩
    ·exact .inl (h3.trans s3)
    ·exact .inr ⟨m,.head _,h3.trans e1,e2,e3⟩
   ·exact .inr ⟨x,.tail _ hx,e1,e2,by omega⟩
theorem scan_some {w:DWorld} {ps:List DPlan} {m:DMove} {next:List DPlan} (h:(scanF w ps).1=some (m,next)):next=(movedF w ps m).1∧(movedF w ps m).2=0∧totalF w next<totalF w ps∧scanF w ps=(some (m,next),totalF w next)∧m∈movesF w.2.2.2.1.length ps:=by
 obtain ⟨_,_,h3⟩:=scan_spec (makeF w) (endF w) ps (movesF w.2.2.2.1.length ps) (none,totG (endF w) ps ps.length);unfold scanF scanG at h⊢;rcases h3 with h3|⟨x,hx,e,e2,e3⟩
 ·rw[h3] at h;cases h
 ·rw[e] at h⊢;obtain ⟨rfl,rfl⟩:x=m∧(movedG (makeF w) ps x).1=next:=by
   have:=Option.some.inj h;exact ⟨congrArg Prod.fst this,congrArg Prod.snd this⟩
  exact ⟨rfl,e2,e3,rfl,hx⟩
def foS (w:DWorld) (ps:List DPlan) (a:DAcc) (l:List DMove):DAcc:=l.foldl (stepG (makeF w) (endF w) ps) a
theorem foS_app (w:DWorld) (ps:List DPlan) (a:DAcc) (l m:List DMove):foS w ps a (l++m)=foS w ps (foS w ps a l) m:=List.foldl_append
theorem flat_next {β:Type} (g:Nat→List β) (k:Nat):(List.range (k+1)).flatMap g=(List.range k).flatMap g++g k:=by
 rw[List.range_succ,List.flatMap_append];simp
theorem foS_0 (w:DWorld) (ps:List DPlan):∃B:Nat→DAcc,B 0=(none,totalF w ps)∧(∀r:Nat,B (r+1)=if fromF ps r<0 then B r else foS w ps (B r) (tosF ps r (fromF ps r)))∧B w.2.2.2.1.length=scanF w ps:=by
 refine ⟨fun r=>foS w ps (none,totalF w ps) (movesF r ps),rfl,fun r=>?_,rfl⟩;have e:movesF (r+1) ps=movesF r ps++if fromF ps r<0 then [] else tosF ps r (fromF ps r):=by unfold movesF;rw[flat_next]
 dsimp only;rw[e,foS_app];by_cases c:fromF ps r<0
 ·rw[if_pos c,if_pos c];rfl
 ·rw[if_neg c,if_neg c]
theorem foS_1 (w:DWorld) (ps:List DPlan) (r f:Int) (a:DAcc):∃B:Nat→DAcc,B 0=a∧(∀t:Nat,B (t+1)=foS w ps (B t) (picksF r f t (outS (ps.getD t dPlan).2.1 r).length))∧B ps.length=foS w ps a (tosF ps r f):=by
 refine ⟨fun t=>foS w ps a ((List.range t).flatMap fun t:Nat=>picksF r f t (outS (ps.getD t dPlan).2.1 r).length),rfl,fun t=>?_,rfl⟩;dsimp only;rw[flat_next,foS_app]
theorem foS_2 (w:DWorld) (ps:List DPlan) (r f t:Int) (n:Nat) (a:DAcc):∃B:Nat→DAcc,B 0=a∧(∀p:Nat,B (p+1)=foS w ps (B p) (dropsF r f t n p))∧B (n+1)=foS w ps a (picksF r f t n):=by
 refine ⟨fun p=>foS w ps a ((List.range p).flatMap (dropsF r f t n)),rfl,fun p=>?_,rfl⟩;dsimp only;rw[flat_next,foS_app]
theorem foS_3 (w:DWorld) (ps:List DPlan) (r f t:Int) (n p:Nat) (a:DAcc):∃B:Nat→DAcc,B 0=a∧(∀k:Nat,B (k+1)=if (movedF w ps (r,f,t,(p:Int),((p+k:Nat):Int))).2=0∧totalF w (movedF w ps (r,f,t,(p:Int),((p+k:Nat):Int))).1<(B k).2 then (some ((r,f,t,(p:Int),((p+k:Nat):Int)),(movedF w ps (r,f,t,(p:Int),((p+k:Nat):Int))).1),totalF w (movedF w ps (r,f,t,(p:Int),((p+k:Nat):Int))).1) else B k)∧B (n+1-p)=foS w ps a (dropsF r f t n p):=by
 refine ⟨fun k=>foS w ps a ((List.range k).map fun d=>(r,f,t,(p:Int),((p+d:Nat):Int))),rfl,fun k=>?_,rfl⟩;dsimp only;rw[List.range_succ,List.map_append,foS_app];rfl
theorem RightPs.lens {w:DWorld} {ps:List DPlan} (h:RightPs w ps) (hq:w.2.2.2.1.length≤10):∀p∈ps,p.2.1.length≤20∧p.2.2.1.length≤20∧p.2.2.2.length≤21:=by
 intro p hp;obtain ⟨j,hj,rfl⟩:=List.getElem_of_mem hp;have e:ps.getD j dPlan=ps[j]:=by simp[List.getD,hj]
 have h1:=RightS.len2 (h.stops hj);obtain ⟨⟨_,h2⟩,_⟩:=h.2.2 j hj;rw[e] at h1 h2;have h3:=(good_legs h2).1;have h4:=(fitsG_iff.1 (good_has h2).2.2.2.1).2.1;dsimp only[winsF] at h4;rw[List.length_map,List.length_range] at h4;omega
theorem mv_gen {β:Type} (L:List β) (g:Nat→List β) (n:Nat):∃B:Nat→List β,B 0=L∧(∀k:Nat,B (k+1)=B k++g k)∧B n=L++(List.range n).flatMap g∧∀k,k≤n→(B k).length≤(B n).length:=by
 refine ⟨fun k=>L++(List.range k).flatMap g,by simp,fun k=>?_,rfl,fun k hk=>?_⟩
 ·dsimp only;rw[flat_next,List.append_assoc]
 ·obtain ⟨d,rfl⟩:∃d,n=k+d:=⟨n-k,by omega⟩;clear hk;induction d with
  |zero=>exact Nat.le_refl _
  |succ d ih=>
   dsimp only at ih⊢;rw[←Nat.add_assoc,flat_next];simp only[List.length_append] at ih⊢;omega
theorem map_flat {α β:Type} (f:α→β):∀l:List α,l.map f=l.flatMap fun x=>[f x]
 |[]=>rfl
 |x::l=>by rw[List.map_cons,List.flatMap_cons,map_flat f l];rfl
theorem mv_drops (L:List DMove) (r f t:Int) (n p:Nat):∃B:Nat→List DMove,B 0=L∧(∀k:Nat,B (k+1)=B k++[(r,f,t,(p:Int),((p+k:Nat):Int))])∧B (n+1-p)=L++dropsF r f t n p∧∀k,k≤n+1-p→(B k).length≤(B (n+1-p)).length:=by
 obtain ⟨B,h1,h2,h3,h4⟩:=mv_gen L (fun k=>[((r,f,t,(p:Int),((p+k:Nat):Int)):DMove)]) (n+1-p);refine ⟨B,h1,h2,?_,h4⟩;rw[h3];unfold dropsF;rw[map_flat]
theorem mv_from {w:DWorld} {ps:List DPlan} (hr:RightPs w ps) (r:Int) (L:List DMove):∃E:Nat→List DMove,E 0=L∧(∀k:Nat,k<ps.length→(r,true)∉(ps.getD k dPlan).2.1→E (k+1)=E k)∧(∀k:Nat,k<ps.length→(r,true)∈(ps.getD k dPlan).2.1→E (k+1)=E k++tosF ps r k)∧
  E ps.length=L++(if fromF ps r<0 then [] else tosF ps r (fromF ps r))∧∀k,k≤ps.length→(E k).length≤(E ps.length).length:=by
 have hat:∀k:Nat,k<ps.length→(r,true)∈(ps.getD k dPlan).2.1→fromF ps r=k:=fun k hk hm=>by
  unfold fromF;refine idxF_at (d:=dPlan) hk (fun j hj=>decide_eq_false fun hm2=>?_) (decide_eq_true hm);have:=hr.one (by omega) hk hm2 hm rfl;omega
 have hmem:0≤fromF ps r→fromF ps r<ps.length∧(r,true)∈(ps.getD (fromF ps r).toNat dPlan).2.1:=fun h=>by
  have:=idxF_hit (p:=fun p:DPlan=>decide ((r,true)∈p.2.1)) (d:=dPlan) (l:=ps) h;exact ⟨this.1,of_decide_eq_true this.2⟩
 refine ⟨fun k=>L++if fromF ps r<0∨(k:Int)≤fromF ps r then [] else tosF ps r (fromF ps r),?_,fun k hk hm=>?_,fun k hk hm=>?_,?_,fun k hk=>?_⟩
 ·dsimp only
  rw[if_pos (by omega),List.append_nil]
 ·dsimp only
  by_cases c:fromF ps r<0
  ·rw[if_pos (.inl c),if_pos (.inl c)]
  ·have h:=hmem (by omega)
   have hne:fromF ps r≠k:=fun e=>by rw[e,Int.toNat_natCast] at h;exact hm h.2
   by_cases q:(k:Int)≤fromF ps r
   ·rw[if_pos (.inr (by omega)),if_pos (.inr q)]
   ·rw[if_neg (by omega),if_neg (by omega)]
 ·dsimp only
  have e:=hat k hk hm
  rw[e,if_neg (by omega),if_pos (by omega),List.append_nil]
 ·dsimp only
  by_cases c:fromF ps r<0
  ·rw[if_pos (.inl c),if_pos c]
  ·have h:=hmem (by omega)
   rw[if_neg (by omega),if_neg c]
 ·dsimp only
  by_cases c:fromF ps r<0
  ·rw[if_pos (.inl c),if_pos (.inl c)];exact Nat.le_refl _
  ·have h:=hmem (by omega)
   rw[if_neg (c:=fromF ps r<0∨(ps.length:Int)≤fromF ps r) (by omega)]
   rw[List.length_append,List.length_append]
   split
   ·rw[List.length_nil];omega
   ·exact Nat.le_refl _
theorem flat_lenN {β:Type} {g:Nat→List β} {c:Nat}:∀n,(∀k,k<n→(g k).length≤c)→((List.range n).flatMap g).length≤n*c
 |0,_=>by simp
 |n+1,h=>by
  rw[flat_next,List.length_append,Nat.succ_mul];have h1:=flat_lenN n fun k hk=>h k (by omega);have h2:=h n (by omega);omega
theorem moves_len {w:DWorld} {ps:List DPlan} (hr:RightPs w ps) (hq:w.2.2.2.1.length≤10) (hl:ps.length≤1000):(movesF w.2.2.2.1.length ps).length≤4410000:=by
 have hn:∀t:Nat,∀r:Int,(outS (ps.getD t dPlan).2.1 r).length≤20:=fun t r=>by
  refine Nat.le_trans (outS_len _ _) ?_;by_cases c:t<ps.length
  ·exact (hr.lens hq _ (by simp[List.getD,c])).1
  ·have:ps.getD t dPlan=dPlan:=by simp[List.getD,c]
   rw[this];exact Nat.zero_le _
 have h1:∀(r f t:Int) (n p:Nat),(dropsF r f t n p).length≤n+1:=fun r f t n p=>by unfold dropsF;rw[List.length_map,List.length_range];omega
 have h2:∀(r f t:Int) (n:Nat),n≤20→(picksF r f t n).length≤441:=fun r f t n h=>by
  unfold picksF;exact Nat.le_trans (flat_lenN (g:=dropsF r f t n) (c:=n+1) (n+1) fun k _=>h1 r f t n k) (Nat.mul_le_mul (show n+1≤21 by omega) (show n+1≤21 by omega))
 have h3:∀(r f:Int),(tosF ps r f).length≤441000:=fun r f=>by
  unfold tosF;exact Nat.le_trans (flat_lenN (g:=fun t:Nat=>picksF r f t (outS (ps.getD t dPlan).2.1 r).length) (c:=441) ps.length fun k _=>h2 r f k _ (hn k r)) (by omega)
 unfold movesF;refine Nat.le_trans (flat_lenN (g:=fun r:Nat=>if fromF ps r<0 then [] else tosF ps r (fromF ps r)) (c:=441000) w.2.2.2.1.length fun k _=>?_) (by omega);split
 ·exact Nat.zero_le _
 ·exact h3 _ _
theorem foS_at (w:DWorld) (ps:List DPlan) (l:List DMove):∃A:Nat→DAcc,A 0=(none,totalF w ps)∧(∀i:Nat,i<l.length→A (i+1)=if (movedF w ps (l.getD i dMove)).2=0∧totalF w (movedF w ps (l.getD i dMove)).1<(A i).2 then (some (l.getD i dMove,(movedF w ps (l.getD i dMove)).1),totalF w (movedF w ps (l.getD i dMove)).1) else A i)∧A l.length=foS w ps (none,totalF w ps) l:=by
 refine ⟨fun i=>foS w ps (none,totalF w ps) (l.take i),rfl,fun i hi=>?_,by dsimp only;rw[List.take_length]⟩;dsimp only;rw[List.take_succ_eq_append_getElem hi,foS_app,show l[i]=l.getD i dMove by simp[List.getD,hi]];rfl
end T
end Go.Proofs.YtcnfmabhghhdnaaGreat
end
