/- Parts of the proof of the law; no condition. -/
import Derived.Test.YtcnfmabhghhdnaaGreatA32
set_option linter.all false
section
namespace Go.Proofs.YtcnfmabhghhdnaaGreat
namespace T
theorem planAt_nat (ps:List DPlan) (i:Nat):planAt ps (i:Int)=ps.getD i dPlan:=by unfold planAt;rw[Int.toNat_natCast]
theorem getD_setP {l:List DPlan} {i:Nat} (hi:i<l.length) (a:DPlan) (j:Nat):(l.set i a).getD j dPlan=if j=i then a else l.getD j dPlan:=by
 simp only[List.getD,List.getElem?_set];by_cases c:i=j
 ·subst c;rw[if_pos rfl,if_pos hi,if_pos rfl];rfl
 ·rw[if_neg c,if_neg (Ne.symm c)]
theorem moved_mk {w:DWorld} {ps:List DPlan} {r:Int} {f t p d:Nat} {X Y:DPlan} (hf:f<ps.length) (ht:t<ps.length) (hm:(r,true)∈(ps.getD f dPlan).2.1) (hpd:p≤d) (hd:d≤(outS (ps.getD t dPlan).2.1 r).length)
  (hX:makeF w t (stopsI (outS (ps.getD t dPlan).2.1 r) r p d)=(X,0)) (hY:f≠t→makeF w f (outS (ps.getD f dPlan).2.1 r)=(Y,0)):movedF w ps (r,(f:Int),(t:Int),(p:Int),(d:Int))=(if f=t then ps.set t X else (ps.set t X).set f Y,0):=by
 have b1:¬badM ps (r,(f:Int),(t:Int),(p:Int),(d:Int)):=by
  unfold badM;dsimp only;rw[planAt_nat];rintro (h|h|h|h|h)
  ·omega
  ·omega
  ·omega
  ·omega
  ·exact h hm
 have b2:¬offM ps (r,(f:Int),(t:Int),(p:Int),(d:Int)):=by
  unfold offM toS;dsimp only;rw[planAt_nat];omega
 unfold movedF movedG
 rw[if_neg b1,if_neg b2]
 unfold toS
 dsimp only
 rw[planAt_nat,planAt_nat,hX]
 dsimp only
 rw[if_neg (by decide)]
 by_cases c:f=t
 ·rw[if_pos (by omega),if_pos c,Int.toNat_natCast]
 ·rw[if_neg (by omega),if_neg c,hY c]
  dsimp only
  rw[if_neg (by decide),Int.toNat_natCast,Int.toNat_natCast]
structure MovedP (w:DWorld) (ps next:List DPlan) (r:Int) (f t p d:Nat):Prop where
 hf:f<ps.length
 ht:t<ps.length
 hm:(r,true)∈(ps.getD f dPlan).2.1
 hpd:p≤d
 hd:d≤(outS (ps.getD t dPlan).2.1 r).length
 len:next.length=ps.length
 stops:∀i,i<ps.length→(next.getD i dPlan).2.1=if i=t then stopsI (outS (ps.getD t dPlan).2.1 r) r p d else outS (ps.getD i dPlan).2.1 r
 keep:∀i,i<ps.length→i≠t→i≠f→next.getD i dPlan=ps.getD i dPlan
 made:∀i:Nat,i=t∨i=f→makeF w i (next.getD i dPlan).2.1=(next.getD i dPlan,0)
theorem moved_has {w:DWorld} {ps:List DPlan} (hr:RightPs w ps) {m:DMove} (h:(movedF w ps m).2=0):∃f t p d:Nat,m=(m.1,(f:Int),(t:Int),(p:Int),(d:Int))∧MovedP w ps (movedF w ps m).1 m.1 f t p d:=by
 obtain ⟨r,fi,ti,pi,di⟩:=m;have h':=h;unfold movedF movedG at h;by_cases b1:badM ps (r,fi,ti,pi,di)
 ·rw[if_pos b1] at h;exact absurd h (by show¬(4:Int)=0;decide)
 rw[if_neg b1] at h;by_cases b2:offM ps (r,fi,ti,pi,di)
 ·rw[if_pos b2] at h;exact absurd h (by show¬(3:Int)=0;decide)
 rw[if_neg b2] at h;unfold badM at b1;unfold offM toS at b2;dsimp only at b1 b2;obtain ⟨f,rfl⟩:∃f:Nat,fi=f:=⟨fi.toNat,by omega⟩;obtain ⟨t,rfl⟩:∃t:Nat,ti=t:=⟨ti.toNat,by omega⟩;rw[planAt_nat] at b1 b2;obtain ⟨p,rfl⟩:∃p:Nat,pi=p:=⟨pi.toNat,by omega⟩;obtain ⟨d,rfl⟩:∃d:Nat,di=d:=⟨di.toNat,by omega⟩;have hf:f<ps.length:=by omega
 have ht:t<ps.length:=by omega
 have hm:(r,true)∈(ps.getD f dPlan).2.1:=Classical.byContradiction fun z=>b1 (.inr (.inr (.inr (.inr z))));have hpd:p≤d:=by omega
 have hd:d≤(outS (ps.getD t dPlan).2.1 r).length:=by omega
 unfold toS at h;dsimp only at h;rw[planAt_nat,planAt_nat] at h;by_cases b3:(makeF w t (stopsI (outS (ps.getD t dPlan).2.1 r) r p d)).2≠0
 ·rw[if_pos b3] at h;exact absurd h b3
 replace b3:=Decidable.not_not.1 b3;obtain ⟨X,hX⟩:∃X,(makeF w t (stopsI (outS (ps.getD t dPlan).2.1 r) r p d)).1=X:=⟨_,rfl⟩;have eX:makeF w t (stopsI (outS (ps.getD t dPlan).2.1 r) r p d)=(X,0):=Prod.ext hX b3;have sX:X.2.1=stopsI (outS (ps.getD t dPlan).2.1 r) r p d:=by rw[←hX];exact (made_ok b3).2.2.2.1
 refine ⟨f,t,p,d,rfl,?_⟩;by_cases c:f=t
 ·subst c;have e:=moved_mk (w:=w) (Y:=X) hf hf hm hpd hd eX fun z=>absurd rfl z;rw[if_pos rfl] at e;rw[e];dsimp only;have eo:∀i,i<ps.length→i≠f→outS (ps.getD i dPlan).2.1 r=(ps.getD i dPlan).2.1:=fun i hi hif=>outS_none fun s hs z=>hif (hr.one hi hf hs hm z);refine ⟨hf,hf,hm,hpd,hd,by rw[List.length_set],fun i hi=>?_,fun i hi h1 _=>by rw[getD_setP hf,if_neg h1],fun i hi=>?_⟩
  ·rw[getD_setP hf];by_cases q:i=f
   ·rw[if_pos q,if_pos q,sX]
   ·rw[if_neg q,if_neg q,eo i hi q]
  ·obtain rfl:i=f:=by omega
   rw[getD_setP hf,if_pos rfl,sX,eX]
 ·rw[if_neg (by rw[b3];decide),if_neg (by omega)] at h;by_cases b4:(makeF w f (outS (ps.getD f dPlan).2.1 r)).2≠0
  ·rw[if_pos b4] at h;exact absurd h b4
  replace b4:=Decidable.not_not.1 b4;obtain ⟨Y,hY⟩:∃Y,(makeF w f (outS (ps.getD f dPlan).2.1 r)).1=Y:=⟨_,rfl⟩;have eY:makeF w f (outS (ps.getD f dPlan).2.1 r)=(Y,0):=Prod.ext hY b4;have sY:Y.2.1=outS (ps.getD f dPlan).2.1 r:=by rw[←hY];exact (made_ok b4).2.2.2.1
  have e:=moved_mk (w:=w) (Y:=Y) hf ht hm hpd hd eX fun _=>eY;rw[if_neg c] at e;rw[e];dsimp only;have hf':f<(ps.set t X).length:=by rw[List.length_set];exact hf
  have eo:∀i,i<ps.length→i≠f→outS (ps.getD i dPlan).2.1 r=(ps.getD i dPlan).2.1:=fun i hi hif=>outS_none fun s hs z=>hif (hr.one hi hf hs hm z);have gt:∀i,((ps.set t X).set f Y).getD i dPlan=if i=f then Y else if i=t then X else ps.getD i dPlan:=fun i=>by rw[getD_setP hf',getD_setP ht]
  refine ⟨hf,ht,hm,hpd,hd,by rw[List.length_set,List.length_set],fun i hi=>?_,fun i hi h1 h2=>by rw[gt,if_neg h2,if_neg h1],fun i hi=>?_⟩
  ·rw[gt];by_cases q:i=f
   ·rw[if_pos q,if_neg (by omega),sY,q]
   ·rw[if_neg q];by_cases q2:i=t
    ·rw[if_pos q2,if_pos q2,sX]
    ·rw[if_neg q2,if_neg q2,eo i hi q]
  ·rw[gt];by_cases q:i=f
   ·rw[if_pos q,sY,q,eY]
   ·have q2:i=t:=by omega
    rw[if_neg q,if_pos q2,sX,q2,eX]
theorem MovedP.mem {w:DWorld} {ps next:List DPlan} {r:Int} {f t p d:Nat} (h:MovedP w ps next r f t p d) {i:Nat} (hi:i<ps.length) {s:DStop}:s∈(next.getD i dPlan).2.1↔s.1=r∧i=t∨s.1≠r∧s∈(ps.getD i dPlan).2.1:=by
 rw[h.stops i hi];by_cases c:i=t
 ·subst c;rw[if_pos rfl,stopsI_in h.hpd h.hd,mem_outS];constructor
  ·rintro (h|h)
   ·exact .inl ⟨h.1,rfl⟩
   ·exact .inr ⟨h.2,h.1⟩
  ·rintro (h|h)
   ·refine .inl ⟨h.1,?_⟩;obtain ⟨s1,s2⟩:=s;have:s1=r:=h.1;subst this;cases s2
    ·exact .inr rfl
    ·exact .inl rfl
   ·exact .inr ⟨h.2,h.1⟩
 ·rw[if_neg c,mem_outS];constructor
  ·exact fun h=>.inr ⟨h.2,h.1⟩
  ·rintro (h|h)
   ·exact absurd h.2 c
   ·exact ⟨h.2,h.1⟩
theorem MovedP.right {w:DWorld} {ps next:List DPlan} {r:Int} {f t p d:Nat} (h:MovedP w ps next r f t p d) (hr:RightPs w ps):RightPs w next:=by
 refine ⟨hr.1,h.len.trans hr.2.1,fun j hj=>?_⟩;rw[h.len] at hj;refine ⟨?_,fun i hi=>apart_mk fun s hs u hu e=>?_⟩
 ·by_cases c:j=t∨j=f
  ·have e:=h.made j c;have e2:(makeF w j (next.getD j dPlan).2.1).2=0:=by rw[e]
   have:=made_ok e2;rw[e] at this;exact ⟨this.2.2.1,this.2.1⟩
  ·rw[h.keep j hj (fun z=>c (.inl z)) fun z=>c (.inr z)];exact (hr.2.2 j hj).1
 ·rw[h.mem (by omega)] at hs;rw[h.mem hj] at hu;rcases hs with ⟨a1,a2⟩|⟨a1,a2⟩
  ·rcases hu with ⟨b1,b2⟩|⟨b1,b2⟩
   ·omega
   ·exact b1 (e.symm.trans a1)
  ·rcases hu with ⟨b1,b2⟩|⟨b1,b2⟩
   ·exact a1 (e.trans b1)
   ·have:=hr.one (by omega) hj a2 b2 e;omega
theorem moved_right {w:DWorld} {ps:List DPlan} (hr:RightPs w ps) {m:DMove} (h:(movedF w ps m).2=0):RightPs w (movedF w ps m).1:=by
 obtain ⟨f,t,p,d,_,hp⟩:=moved_has hr h;exact hp.right hr
end T
end Go.Proofs.YtcnfmabhghhdnaaGreat
end
