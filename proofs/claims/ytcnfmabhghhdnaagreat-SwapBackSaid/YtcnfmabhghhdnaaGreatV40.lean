/- Parts of the proof (put together by a program): definitions, lemmas, and the law; no condition. -/
import Derived.Test.YtcnfmabhghhdnaaGreatV37
import Derived.Test.YtcnfmabhghhdnaaGreatV6
set_option linter.unusedVariables false
set_option linter.unusedSimpArgs false
section
namespace Go.Proofs.YtcnfmabhghhdnaaGreat
namespace T
theorem planAt_nat (ps:List DPlan) (i:Nat):planAt ps (i:Int)=ps.getD i dPlan:=by unfold planAt;rw [Int.toNat_natCast]
theorem getD_setP {l:List DPlan} {i:Nat} (hi:i < l.length) (a:DPlan) (j:Nat):(l.set i a).getD j dPlan=if j=i then a else l.getD j dPlan:=by
 simp only [List.getD,List.getElem?_set]
 by_cases c:i=j
 ·subst c;rw [if_pos rfl,if_pos hi,if_pos rfl];rfl
 ·rw [if_neg c,if_neg (Ne.symm c)]
theorem moved_mk {w:DWorld} {ps:List DPlan} {r:Int} {f t p d:Nat} {X Y:DPlan} (hf:f < ps.length) (ht:t < ps.length) (hm:(r,true) ∈ (ps.getD f dPlan).2.1) (hpd:p≤d) (hd:d≤(outS (ps.getD t dPlan).2.1 r).length)
  (hX:makeF w t (stopsI (outS (ps.getD t dPlan).2.1 r) r p d)=(X,0)) (hY:f≠t→makeF w f (outS (ps.getD f dPlan).2.1 r)=(Y,0)):movedF w ps (r,(f:Int),(t:Int),(p:Int),(d:Int))=(if f=t then ps.set t X else (ps.set t X).set f Y,0):=by
 have b1:¬ badM ps (r,(f:Int),(t:Int),(p:Int),(d:Int)):=by
  unfold badM
  dsimp only
  rw [planAt_nat]
  rintro (h | h | h | h | h)
  ·omega
  ·omega
  ·omega
  ·omega
  ·exact h hm
 have b2:¬ offM ps (r,(f:Int),(t:Int),(p:Int),(d:Int)):=by
  unfold offM toS
  dsimp only
  rw [planAt_nat]
  omega
 unfold movedF movedG
 rw [if_neg b1,if_neg b2]
 unfold toS
 dsimp only
 rw [planAt_nat,planAt_nat,hX]
 dsimp only
 rw [if_neg (by decide)]
 by_cases c:f=t
 ·rw [if_pos (by omega),if_pos c,Int.toNat_natCast]
 ·rw [if_neg (by omega),if_neg c,hY c]
  dsimp only
  rw [if_neg (by decide),Int.toNat_natCast,Int.toNat_natCast]
structure MovedP (w:DWorld) (ps next:List DPlan) (r:Int) (f t p d:Nat):Prop where
 hf:f < ps.length
 ht:t < ps.length
 hm:(r,true) ∈ (ps.getD f dPlan).2.1
 hpd:p≤d
 hd:d≤(outS (ps.getD t dPlan).2.1 r).length
 len:next.length=ps.length
 stops:∀ i,i < ps.length→(next.getD i dPlan).2.1=if i=t then stopsI (outS (ps.getD t dPlan).2.1 r) r p d else outS (ps.getD i dPlan).2.1 r
 keep:∀ i,i < ps.length→i≠t→i≠f→next.getD i dPlan=ps.getD i dPlan
 made:∀ i:Nat,i=t∨i=f→makeF w i (next.getD i dPlan).2.1=(next.getD i dPlan,0)
theorem moved_has {w:DWorld} {ps:List DPlan} (hr:RightPs w ps) {m:DMove} (h:(movedF w ps m).2=0):∃ f t p d:Nat,m=(m.1,(f:Int),(t:Int),(p:Int),(d:Int))∧MovedP w ps (movedF w ps m).1 m.1 f t p d:=by
 obtain ⟨r,fi,ti,pi,di⟩:=m
 have h':=h
 unfold movedF movedG at h
 by_cases b1:badM ps (r,fi,ti,pi,di)
 ·rw [if_pos b1] at h;exact absurd h (by show ¬ (4:Int)=0;decide)
 rw [if_neg b1] at h
 by_cases b2:offM ps (r,fi,ti,pi,di)
 ·rw [if_pos b2] at h;exact absurd h (by show ¬ (3:Int)=0;decide)
 rw [if_neg b2] at h
 unfold badM at b1
 unfold offM toS at b2
 dsimp only at b1 b2
 obtain ⟨f,rfl⟩:∃ f:Nat,fi=f:=⟨fi.toNat,by omega⟩
 obtain ⟨t,rfl⟩:∃ t:Nat,ti=t:=⟨ti.toNat,by omega⟩
 rw [planAt_nat] at b1 b2
 obtain ⟨p,rfl⟩:∃ p:Nat,pi=p:=⟨pi.toNat,by omega⟩
 obtain ⟨d,rfl⟩:∃ d:Nat,di=d:=⟨di.toNat,by omega⟩
 have hf:f < ps.length:=by omega
 have ht:t < ps.length:=by omega
 have hm:(r,true) ∈ (ps.getD f dPlan).2.1:=Classical.byContradiction fun z=>b1 (.inr (.inr (.inr (.inr z))))
 have hpd:p≤d:=by omega
 have hd:d≤(outS (ps.getD t dPlan).2.1 r).length:=by omega
 unfold toS at h
 dsimp only at h
 rw [planAt_nat,planAt_nat] at h
 by_cases b3:(makeF w t (stopsI (outS (ps.getD t dPlan).2.1 r) r p d)).2≠0
 ·rw [if_pos b3] at h;exact absurd h b3
 replace b3:=Decidable.not_not.1 b3
 obtain ⟨X,hX⟩:∃ X,(makeF w t (stopsI (outS (ps.getD t dPlan).2.1 r) r p d)).1=X:=⟨_,rfl⟩
 have eX:makeF w t (stopsI (outS (ps.getD t dPlan).2.1 r) r p d)=(X,0):=Prod.ext hX b3
 have sX:X.2.1=stopsI (outS (ps.getD t dPlan).2.1 r) r p d:=by rw [← hX];exact (made_ok b3).2.2.2.1
 refine ⟨f,t,p,d,rfl,?_⟩
 by_cases c:f=t
 ·subst c
  have e:=moved_mk (w:=w) (Y:=X) hf hf hm hpd hd eX fun z=>absurd rfl z
  rw [if_pos rfl] at e
  rw [e]
  dsimp only
  have eo:∀ i,i < ps.length→i≠f→outS (ps.getD i dPlan).2.1 r=(ps.getD i dPlan).2.1:=fun i hi hif=>outS_none fun s hs z=>hif (hr.one hi hf hs hm z)
  refine ⟨hf,hf,hm,hpd,hd,by rw [List.length_set],fun i hi=>?_,fun i hi h1 _=>by rw [getD_setP hf,if_neg h1],fun i hi=>?_⟩
  ·rw [getD_setP hf]
   by_cases q:i=f
   ·rw [if_pos q,if_pos q,sX]
   ·rw [if_neg q,if_neg q,eo i hi q]
  ·obtain rfl:i=f:=by omega
   rw [getD_setP hf,if_pos rfl,sX,eX]
 ·rw [if_neg (by rw [b3];decide),if_neg (by omega)] at h
  by_cases b4:(makeF w f (outS (ps.getD f dPlan).2.1 r)).2≠0
  ·rw [if_pos b4] at h;exact absurd h b4
  replace b4:=Decidable.not_not.1 b4
  obtain ⟨Y,hY⟩:∃ Y,(makeF w f (outS (ps.getD f dPlan).2.1 r)).1=Y:=⟨_,rfl⟩
  have eY:makeF w f (outS (ps.getD f dPlan).2.1 r)=(Y,0):=Prod.ext hY b4
  have sY:Y.2.1=outS (ps.getD f dPlan).2.1 r:=by rw [← hY];exact (made_ok b4).2.2.2.1
  have e:=moved_mk (w:=w) (Y:=Y) hf ht hm hpd hd eX fun _=>eY
  rw [if_neg c] at e
  rw [e]
  dsimp only
  have hf':f < (ps.set t X).length:=by rw [List.length_set];exact hf
  have eo:∀ i,i < ps.length→i≠f→outS (ps.getD i dPlan).2.1 r=(ps.getD i dPlan).2.1:=fun i hi hif=>outS_none fun s hs z=>hif (hr.one hi hf hs hm z)
  have gt:∀ i,((ps.set t X).set f Y).getD i dPlan=if i=f then Y else if i=t then X else ps.getD i dPlan:=fun i=>by rw [getD_setP hf',getD_setP ht]
  refine ⟨hf,ht,hm,hpd,hd,by rw [List.length_set,List.length_set],fun i hi=>?_,fun i hi h1 h2=>by rw [gt,if_neg h2,if_neg h1],fun i hi=>?_⟩
  ·rw [gt]
   by_cases q:i=f
   ·rw [if_pos q,if_neg (by omega),sY,q]
   ·rw [if_neg q]
    by_cases q2:i=t
    ·rw [if_pos q2,if_pos q2,sX]
    ·rw [if_neg q2,if_neg q2,eo i hi q]
  ·rw [gt]
   by_cases q:i=f
   ·rw [if_pos q,sY,q,eY]
   ·have q2:i=t:=by omega
    rw [if_neg q,if_pos q2,sX,q2,eX]
theorem MovedP.mem {w:DWorld} {ps next:List DPlan} {r:Int} {f t p d:Nat} (h:MovedP w ps next r f t p d) {i:Nat} (hi:i < ps.length) {s:DStop}:s ∈ (next.getD i dPlan).2.1 ↔ s.1=r∧i=t∨s.1≠r∧s ∈ (ps.getD i dPlan).2.1:=by
 rw [h.stops i hi]
 by_cases c:i=t
 ·subst c
  rw [if_pos rfl,stopsI_in h.hpd h.hd,mem_outS]
  constructor
  ·rintro (h | h)
   ·exact .inl ⟨h.1,rfl⟩
   ·exact .inr ⟨h.2,h.1⟩
  ·rintro (h | h)
   ·refine .inl ⟨h.1,?_⟩
    obtain ⟨s1,s2⟩:=s
    have:s1=r:=h.1
    subst this
    cases s2
    ·exact .inr rfl
    ·exact .inl rfl
   ·exact .inr ⟨h.2,h.1⟩
 ·rw [if_neg c,mem_outS]
  constructor
  ·exact fun h=>.inr ⟨h.2,h.1⟩
  ·rintro (h | h)
   ·exact absurd h.2 c
   ·exact ⟨h.2,h.1⟩
theorem MovedP.right {w:DWorld} {ps next:List DPlan} {r:Int} {f t p d:Nat} (h:MovedP w ps next r f t p d) (hr:RightPs w ps):RightPs w next:=by
 refine ⟨hr.1,h.len.trans hr.2.1,fun j hj=>?_⟩
 rw [h.len] at hj
 refine ⟨?_,fun i hi=>apart_mk fun s hs u hu e=>?_⟩
 ·by_cases c:j=t∨j=f
  ·have e:=h.made j c
   have e2:(makeF w j (next.getD j dPlan).2.1).2=0:=by rw [e]
   have:=made_ok e2
   rw [e] at this
   exact ⟨this.2.2.1,this.2.1⟩
  ·rw [h.keep j hj (fun z=>c (.inl z)) fun z=>c (.inr z)]
   exact (hr.2.2 j hj).1
 ·rw [h.mem (by omega)] at hs
  rw [h.mem hj] at hu
  rcases hs with ⟨a1,a2⟩ | ⟨a1,a2⟩
  ·rcases hu with ⟨b1,b2⟩ | ⟨b1,b2⟩
   ·omega
   ·exact b1 (e.symm.trans a1)
  ·rcases hu with ⟨b1,b2⟩ | ⟨b1,b2⟩
   ·exact a1 (e.trans b1)
   ·have:=hr.one (by omega) hj a2 b2 e;omega
theorem moved_right {w:DWorld} {ps:List DPlan} (hr:RightPs w ps) {m:DMove} (h:(movedF w ps m).2=0):RightPs w (movedF w ps m).1:=by
 obtain ⟨f,t,p,d,_,hp⟩:=moved_has hr h
 exact hp.right hr
def inPs (ps:List DPlan) (s:DStop):Prop:=∃ i,i < ps.length∧s ∈ (ps.getD i dPlan).2.1
theorem moved_in {w:DWorld} {ps:List DPlan} (hr:RightPs w ps) {m:DMove} (h:(movedF w ps m).2=0) (s:DStop):inPs (movedF w ps m).1 s ↔ inPs ps s:=by
 obtain ⟨f,t,p,d,_,hp⟩:=moved_has hr h
 unfold inPs
 rw [hp.len]
 constructor
 ·rintro ⟨i,hi,hs⟩
  rcases (hp.mem hi).1 hs with ⟨a1,a2⟩ | ⟨a1,a2⟩
  ·refine ⟨f,hp.hf,?_⟩
   obtain ⟨s1,s2⟩:=s
   have:s1=m.1:=a1
   subst this
   cases s2
   ·obtain ⟨k,hk,e⟩:=List.getElem_of_mem hp.hm
    obtain ⟨k2,_,h2,h3⟩:=pick_drop (hr.stops hp.hf) (i:=k) hk (by rw [getD_get hk,e])
    rw [getD_get hk,e] at h3
    rw [← h3]
    exact getD_memS h2
   ·exact hp.hm
  ·exact ⟨i,hi,a2⟩
 ·rintro ⟨i,hi,hs⟩
  by_cases c:s.1=m.1
  ·exact ⟨t,hp.ht,(hp.mem hp.ht).2 (.inl ⟨c,rfl⟩)⟩
  ·exact ⟨i,hi,(hp.mem hi).2 (.inr ⟨c,hs⟩)⟩
theorem split_stops {ss:List DStop} {rs:List DReq} (h:RightS ss rs) {r:Int} (hm:(r,true) ∈ ss):∃ A B D:List DStop,ss=A ++ ((r,true) :: (B ++ ((r,false) :: D)))∧(∀ s ∈ A,s.1≠r)∧(∀ s ∈ B,s.1≠r)∧(∀ s ∈ D,s.1≠r)∧atF (r,true) ss=(A.length:Int)∧atF (r,false) ss=((A.length+B.length+1:Nat):Int):=by
 obtain ⟨i,hi,e⟩:=List.getElem_of_mem hm
 obtain ⟨k,h1,h2,h3⟩:=pick_drop h (i:=i) hi (by rw [getD_get hi,e])
 rw [getD_get hi,e] at h3
 have h3':ss[k]=(r,false):=by rw [← getD_get h2];exact h3
 have hu:∀ j,j < ss.length→(ss.getD j dStop).1=r→j=i∨j=k:=fun j hj hjr=>by
  cases hb:(ss.getD j dStop).2
  ·exact .inr (h.inj hj h2 (by rw [h3];exact Prod.ext hjr hb))
  ·exact .inl (h.inj hj hi (by rw [getD_get hi,e];exact Prod.ext hjr hb))
 have s1:ss=ss.take i ++ ((r,true) :: ss.drop (i+1)):=by rw [← e,← List.drop_eq_getElem_cons hi,List.take_append_drop]
 have s2:ss.drop (i+1)=(ss.drop (i+1)).take (k - (i+1)) ++ ((r,false) :: ss.drop (k+1)):=by
  have e4:ss.drop k=(r,false) :: ss.drop (k+1):=by rw [← h3',← List.drop_eq_getElem_cons h2]
  rw [← e4]
  have:=List.take_append_drop (k - (i+1)) (ss.drop (i+1))
  rw [List.drop_drop,show i+1+(k - (i+1))=k by omega] at this
  exact this.symm
 have a1:=h.at_eq hi
 have a2:=h.at_eq h2
 rw [getD_get hi,e] at a1
 rw [h3] at a2
 have la:(ss.take i).length=i:=by rw [List.length_take];omega
 have lb:((ss.drop (i+1)).take (k - (i+1))).length=k - (i+1):=by rw [List.length_take,List.length_drop];omega
 refine ⟨ss.take i,(ss.drop (i+1)).take (k - (i+1)),ss.drop (k+1),?_,fun s hs z=>?_,fun s hs z=>?_,fun s hs z=>?_,by rw [a1,la],by rw [a2,la,lb];omega⟩
 ·rw [← s2];exact s1
 ·obtain ⟨j,hj,hjl,rfl⟩:=mem_take_lt hs
  have:=hu j hjl z
  omega
 ·obtain ⟨j,hj,rfl⟩:=List.getElem_of_mem hs
  rw [lb] at hj
  rw [List.getElem_take,List.getElem_drop] at z
  have:=hu (i+1+j) (by omega) (by rw [getD_get (by omega)];exact z)
  omega
 ·obtain ⟨j,hj,hjl,rfl⟩:=mem_drop_ge hs
  have:=hu j hjl z
  omega
theorem back_stops {ss:List DStop} {rs:List DReq} (h:RightS ss rs) {r:Int} (hm:(r,true) ∈ ss):∃ a b:Nat,atF (r,true) ss=a∧atF (r,false) ss - 1=b∧a≤b∧b≤(outS ss r).length∧stopsI (outS ss r) r a b=ss:=by
 obtain ⟨A,B,D,e,hA,hB,hD,a1,a2⟩:=split_stops h hm
 have eo:outS ss r=A ++ (B ++ D):=by
  rw [e,outS_append,outS_none hA]
  have:∀ (b:Bool) (l:List DStop),outS ((r,b) :: l) r=outS l r:=fun b l=>by unfold outS;rw [List.filter_cons_of_neg (by simp)]
  rw [this,outS_append,this,outS_none hB,outS_none hD]
 have l1:(A ++ (B ++ D)).length=A.length+(B.length+D.length):=by rw [List.length_append,List.length_append]
 refine ⟨A.length,A.length+B.length,a1,by omega,by omega,by rw [eo];omega,?_⟩
 rw [eo,stopsI_parts (by omega) (by omega),List.take_left,← List.append_assoc A B D]
 have l2:(A ++ B).length=A.length+B.length:=List.length_append
 rw [← l2,List.take_left,List.drop_left,List.drop_left,e]
 rfl
theorem moved_back {w:DWorld} {ps:List DPlan} (hr:RightPs w ps) (hk:∀ i,i < ps.length→makeF w i (ps.getD i dPlan).2.1=(ps.getD i dPlan,0)) {m:DMove} (h:(movedF w ps m).2=0) :
  movedF w (movedF w ps m).1 (m.1,m.2.2.1,m.2.1,atF (m.1,true) (planAt ps m.2.1).2.1,atF (m.1,false) (planAt ps m.2.1).2.1 - 1)=(ps,0):=by
 obtain ⟨f,t,p,d,em,hp⟩:=moved_has hr h
 generalize (movedF w ps m).1=next at hp
 obtain ⟨r,mf,mt,mp,md⟩:=m
 have e1:mf=f:=congrArg (fun x:DMove=>x.2.1) em
 have e2:mt=t:=congrArg (fun x:DMove=>x.2.2.1) em
 subst e1
 subst e2
 dsimp only at hp ⊢
 rw [planAt_nat]
 obtain ⟨a,b,a1,a2,a3,a4,a5⟩:=back_stops (hr.stops hp.hf) hp.hm
 rw [a1,a2]
 have hl:=hp.len
 have h1:(r,true) ∈ (next.getD t dPlan).2.1:=(hp.mem hp.ht).2 (.inl ⟨rfl,rfl⟩)
 have h2:outS (next.getD f dPlan).2.1 r=outS (ps.getD f dPlan).2.1 r:=by
  rw [hp.stops f hp.hf]
  by_cases c:f=t
  ·rw [if_pos c,outS_stops hp.hpd hp.hd (fun s hs=>(mem_outS.1 hs).2),c]
  ·rw [if_neg c,outS_twice]
 have h3:t≠f→outS (next.getD t dPlan).2.1 r=(ps.getD t dPlan).2.1:=fun c=>by
  rw [hp.stops t hp.ht,if_pos rfl,outS_stops hp.hpd hp.hd (fun s hs=>(mem_outS.1 hs).2)]
  exact outS_none fun s hs z=>c (hr.one hp.ht hp.hf hs hp.hm z)
 have e:=moved_mk (w:=w) (ps:=next) (r:=r) (f:=t) (t:=f) (p:=a) (d:=b) (X:=ps.getD f dPlan) (Y:=ps.getD t dPlan) (by rw [hl];exact hp.ht) (by rw [hl];exact hp.hf) h1 a3 (by rw [h2];exact a4)
  (by rw [h2,a5];exact hk f hp.hf) (fun c=>by rw [h3 c];exact hk t hp.ht)
 rw [e]
 congr 1
 have hfn:f < next.length:=by rw [hl];exact hp.hf
 have htn:t < next.length:=by rw [hl];exact hp.ht
 by_cases c:t=f
 ·rw [if_pos c]
  refine ext_getD dPlan (by rw [List.length_set,hl]) fun i hi=>?_
  rw [List.length_set,hl] at hi
  rw [getD_setP hfn]
  by_cases q:i=f
  ·rw [if_pos q,q]
  ·rw [if_neg q,hp.keep i hi (by omega) q]
 ·rw [if_neg c]
  have htn':t < (next.set f (ps.getD f dPlan)).length:=by rw [List.length_set];exact htn
  refine ext_getD dPlan (by rw [List.length_set,List.length_set,hl]) fun i hi=>?_
  rw [List.length_set,List.length_set,hl] at hi
  rw [getD_setP htn',getD_setP hfn]
  by_cases q:i=t
  ·rw [if_pos q,q]
  ·rw [if_neg q]
   by_cases q2:i=f
   ·rw [if_pos q2,q2]
   ·rw [if_neg q2,hp.keep i hi q q2]
theorem moved_less {w:DWorld} {ps:List DPlan} (hr:RightPs w ps) {m:DMove} (h:(movedF w ps m).2=0) {i:Nat} (hi:i < ps.length):outS ((movedF w ps m).1.getD i dPlan).2.1 m.1=outS (ps.getD i dPlan).2.1 m.1:=by
 obtain ⟨f,t,p,d,em,hp⟩:=moved_has hr h
 rw [hp.stops i hi]
 by_cases c:i=t
 ·rw [if_pos c,outS_stops hp.hpd hp.hd (fun s hs=>(mem_outS.1 hs).2),c]
 ·rw [if_neg c,outS_twice]
end T
end Go.Proofs.YtcnfmabhghhdnaaGreat
end
