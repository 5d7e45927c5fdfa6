/- Parts of the proof of the law; no condition. -/
import Derived.Test.YtcnfmabhghhdnaaGreatA30
set_option linter.all false
section
namespace Go.Proofs.YtcnfmabhghhdnaaGreat
namespace T
abbrev DMove:=Int×Int×Int×Int×Int
@[reducible] def dPlan:DPlan:=(0,[],[],[])
@[reducible] def dMove:DMove:=(0,0,0,0,0)
def planAt (ps:List DPlan) (i:Int):DPlan:=ps.getD i.toNat dPlan
def outS (ss:List DStop) (r:Int):List DStop:=ss.filter fun s=>decide (s.1≠r)
def apartB (p q:DPlan):Bool:=p.2.1.all fun s=>q.2.1.all fun t=>decide (s.1≠t.1)
def RightPs (w:DWorld) (ps:List DPlan):Prop:=rightP w=true∧ps.length=w.2.2.1.length∧∀j,j<ps.length→((ps.getD j dPlan).1=(j:Int)∧checkP w (ps.getD j dPlan)=0)∧∀i,i<j→apartB (ps.getD i dPlan) (ps.getD j dPlan)=true
instance (w:DWorld) (ps:List DPlan):Decidable (RightPs w ps):=by unfold RightPs;infer_instance
def rightPs (w:DWorld) (ps:List DPlan):Bool:=decide (RightPs w ps)
def toS (ps:List DPlan) (m:DMove):List DStop:=outS (planAt ps m.2.2.1).2.1 m.1
def badM (ps:List DPlan) (m:DMove):Prop:=m.2.1<0∨(ps.length:Int)≤m.2.1∨m.2.2.1<0∨(ps.length:Int)≤m.2.2.1∨¬(m.1,true)∈(planAt ps m.2.1).2.1
instance (ps:List DPlan) (m:DMove):Decidable (badM ps m):=by unfold badM;infer_instance
def offM (ps:List DPlan) (m:DMove):Prop:=m.2.2.2.1<0∨m.2.2.2.2<m.2.2.2.1∨((toS ps m).length:Int)<m.2.2.2.2
instance (ps:List DPlan) (m:DMove):Decidable (offM ps m):=by unfold offM;infer_instance
def movedG (mk:Int→List DStop→DPlan×Int) (ps:List DPlan) (m:DMove):List DPlan×Int:=
 if badM ps m then ([],4) else if offM ps m then ([],3)
 else if (mk m.2.2.1 (stopsI (toS ps m) m.1 m.2.2.2.1 m.2.2.2.2)).2≠0 then ([],(mk m.2.2.1 (stopsI (toS ps m) m.1 m.2.2.2.1 m.2.2.2.2)).2)
 else if m.2.1=m.2.2.1 then (ps.set m.2.2.1.toNat (mk m.2.2.1 (stopsI (toS ps m) m.1 m.2.2.2.1 m.2.2.2.2)).1,0)
 else if (mk m.2.1 (outS (planAt ps m.2.1).2.1 m.1)).2≠0 then ([],(mk m.2.1 (outS (planAt ps m.2.1).2.1 m.1)).2)
 else ((ps.set m.2.2.1.toNat (mk m.2.2.1 (stopsI (toS ps m) m.1 m.2.2.2.1 m.2.2.2.2)).1).set m.2.1.toNat (mk m.2.1 (outS (planAt ps m.2.1).2.1 m.1)).1,0)
def totG (en:DPlan→Int) (ps:List DPlan):Nat→Int
 |0=>0
 |k+1=>totG en ps k+en (ps.getD k dPlan)
def dropsF (r f t:Int) (n p:Nat):List DMove:=(List.range (n+1-p)).map fun d=>(r,f,t,(p:Int),((p+d:Nat):Int))
def picksF (r f t:Int) (n:Nat):List DMove:=(List.range (n+1)).flatMap fun p=>dropsF r f t n p
def tosF (ps:List DPlan) (r f:Int):List DMove:=(List.range ps.length).flatMap fun t:Nat=>picksF r f t (outS (ps.getD t dPlan).2.1 r).length
def fromF (ps:List DPlan) (r:Int):Int:=idxF (fun p:DPlan=>decide ((r,true)∈p.2.1)) ps
def movesF (q:Nat) (ps:List DPlan):List DMove:=(List.range q).flatMap fun r:Nat=>if fromF ps r<0 then [] else tosF ps r (fromF ps r)
abbrev DAcc:=Option (DMove×List DPlan)×Int
def stepG (mk:Int→List DStop→DPlan×Int) (en:DPlan→Int) (ps:List DPlan) (a:DAcc) (m:DMove):DAcc:=
 if (movedG mk ps m).2=0∧totG en (movedG mk ps m).1 (movedG mk ps m).1.length<a.2 then (some (m,(movedG mk ps m).1),totG en (movedG mk ps m).1 (movedG mk ps m).1.length) else a
def scanG (mk:Int→List DStop→DPlan×Int) (en:DPlan→Int) (q:Nat) (ps:List DPlan):DAcc:=(movesF q ps).foldl (stepG mk en ps) (none,totG en ps ps.length)
def impG (mk:Int→List DStop→DPlan×Int) (en:DPlan→Int) (q:Nat):Nat→List DPlan→List DMove→List DPlan×List DMove×Int
 |0,_,_=>([],[],6)
 |k+1,now,made=>match (scanG mk en q now).1 with
  |none=>(now,made,0)
  |some x=>impG mk en q k x.2 (made++[x.1])
def endF (w:DWorld) (p:DPlan):Int:=(endP w p).1
def movedF (w:DWorld) (ps:List DPlan) (m:DMove):List DPlan×Int:=movedG (makeF w) ps m
def totalF (w:DWorld) (ps:List DPlan):Int:=totG (endF w) ps ps.length
def tryF (w:DWorld) (ps:List DPlan) (m:DMove):List DPlan×Int:=if rightPs w ps=true then movedF w ps m else ([],1)
def sumF (w:DWorld) (ps:List DPlan):Int×Bool:=if rightPs w ps=true then (totalF w ps,true) else (0,false)
def scanF (w:DWorld) (ps:List DPlan):DAcc:=scanG (makeF w) (endF w) w.2.2.2.1.length ps
def impF (w:DWorld) (k:Nat) (ps:List DPlan) (made:List DMove):List DPlan×List DMove×Int:=impG (makeF w) (endF w) w.2.2.2.1.length k ps made
def improveF (w:DWorld) (ps:List DPlan):List DPlan×List DMove×Int:=if rightPs w ps=true then impF w 101 ps [] else ([],[],1)
theorem rightPs_iff {w:DWorld} {ps:List DPlan}:rightPs w ps=true↔RightPs w ps:=by unfold rightPs;exact decide_eq_true_iff
theorem mem_outS {ss:List DStop} {r:Int} {s:DStop}:s∈outS ss r↔s∈ss∧s.1≠r:=by unfold outS;rw[List.mem_filter,decide_eq_true_eq]
theorem outS_len (ss:List DStop) (r:Int):(outS ss r).length≤ss.length:=List.length_filter_le _ _
theorem outS_none {ss:List DStop} {r:Int} (h:∀s∈ss,s.1≠r):outS ss r=ss:=List.filter_eq_self.2 fun s hs=>decide_eq_true (h s hs)
theorem stopsI_in {ss:List DStop} {r:Int} {a b:Nat} (hab:a≤b) (hb:b≤ss.length) {s:DStop}:s∈stopsI ss r a b↔s.1=r∧(s=(r,true)∨s=(r,false))∨s∈ss:=by
 have h1:s∈ss↔s∈ss.take a∨s∈(ss.take b).drop a∨s∈ss.drop b:=by
  have e:ss.take a++((ss.take b).drop a++ss.drop b)=ss:=by
   rw[←List.append_assoc];have:ss.take a++(ss.take b).drop a=ss.take b:=by
    have:=List.take_append_drop a (ss.take b);rwa [List.take_take,Nat.min_eq_left hab] at this
   rw[this,List.take_append_drop]
  rw[←List.mem_append,←List.mem_append,e]
 rw[stopsI_parts hab hb,h1];simp only[List.mem_append,List.mem_singleton];constructor
 ·rintro (h|h|h|h|h)
  ·exact .inr (.inl h)
  ·exact .inl ⟨by rw[h],.inl h⟩
  ·exact .inr (.inr (.inl h))
  ·exact .inl ⟨by rw[h],.inr h⟩
  ·exact .inr (.inr (.inr h))
 ·rintro (⟨_,h|h⟩|h|h|h)
  ·exact .inr (.inl h)
  ·exact .inr (.inr (.inr (.inl h)))
  ·exact .inl h
  ·exact .inr (.inr (.inl h))
  ·exact .inr (.inr (.inr (.inr h)))
theorem outS_append (a b:List DStop) (r:Int):outS (a++b) r=outS a r++outS b r:=List.filter_append _ _
theorem RightPs.stops {w:DWorld} {ps:List DPlan} (h:RightPs w ps) {j:Nat} (hj:j<ps.length):RightS (ps.getD j dPlan).2.1 w.2.2.2.1:=(asks_iff.1 (by have:=(good_has (h.2.2 j hj).1.2).1;exact this)).2.2
theorem apart_ne {p q:DPlan} (h:apartB p q=true) {s t:DStop} (hs:s∈p.2.1) (ht:t∈q.2.1):s.1≠t.1:=by
 unfold apartB at h;rw[List.all_eq_true] at h;have:=h s hs;rw[List.all_eq_true] at this;exact of_decide_eq_true (this t ht)
theorem apart_mk {p q:DPlan} (h:∀s∈p.2.1,∀t∈q.2.1,s.1≠t.1):apartB p q=true:=by
 unfold apartB;rw[List.all_eq_true];intro s hs;rw[List.all_eq_true];exact fun t ht=>decide_eq_true (h s hs t ht)
theorem RightPs.one {w:DWorld} {ps:List DPlan} (h:RightPs w ps) {i j:Nat} (hi:i<ps.length) (hj:j<ps.length) {s t:DStop} (hs:s∈(ps.getD i dPlan).2.1) (ht:t∈(ps.getD j dPlan).2.1) (e:s.1=t.1):i=j:=by
 rcases Nat.lt_trichotomy i j with c|c|c
 ·exact absurd e (apart_ne ((h.2.2 j hj).2 i c) hs ht)
 ·exact c
 ·exact absurd e.symm (apart_ne ((h.2.2 i hi).2 j c) ht hs)
theorem nodup_lenN:∀(n:Nat) (l:List Nat),l.Nodup→(∀x∈l,x<n)→l.length≤n
 |0,l,_,h=>by
  cases l with
  |nil=>exact Nat.le_refl _
  |cons a r=>exact absurd (h a (.head _)) (Nat.not_lt_zero _)
 |n+1,l,hn,h=>by
  have ih:=nodup_lenN n (l.erase n) (hn.erase _) fun x hx=>by
   have:=(hn.mem_erase_iff).1 hx;have:=h x this.2;omega
  by_cases c:n∈l
  ·rw[List.length_erase_of_mem c] at ih;omega
  ·rw[List.erase_of_not_mem c] at ih;omega
theorem RightS.len2 {ss:List DStop} {rs:List DReq} (h:RightS ss rs):ss.length≤2*rs.length:=by
 have h1:(ss.map fun s=>2*s.1.toNat+if s.2 then 1 else 0).Nodup:=by
  rw[List.nodup_iff_pairwise_ne,List.pairwise_map,List.pairwise_iff_getElem];intro i j hi hj hij e;have a1:=(h.2 i hi).1;have a2:=(h.2 j hj).1;have:ss.getD i dStop=ss.getD j dStop:=by
   rw[getD_get hi,getD_get hj] at*;generalize ss[i]=s at*;generalize ss[j]=t at*;obtain ⟨s1,s2⟩:=s;obtain ⟨t1,t2⟩:=t;dsimp only at a1 a2 e;cases s2<;>cases t2<;>simp only[Bool.false_eq_true,if_true,if_false] at e<;>first|(exfalso;omega)|exact Prod.ext (by show s1=t1;omega) rfl
  have:=h.inj hi hj this;omega
 have h2:=nodup_lenN (2*rs.length) _ h1 fun x hx=>by
  obtain ⟨s,hs,rfl⟩:=List.mem_map.1 hx;obtain ⟨i,hi,rfl⟩:=List.getElem_of_mem hs;have a1:=(h.2 i hi).1;rw[getD_get hi] at a1;split<;>omega
 rwa [List.length_map] at h2
theorem end_rng (w:DWorld) (p:DPlan):0≤endF w p∧endF w p≤134217728:=by
 unfold endF;rw[endP_eq];by_cases h:checkP w p≠0
 ·rw[if_pos h];exact ⟨Int.le_refl _,by show (0:Int)≤134217728;decide⟩
 rw[if_neg h];replace h:=Decidable.not_not.1 h;rw[good_worst h];obtain ⟨h1,h2,h3,h4,_⟩:=good_has h;have hl:=(good_legs h).1;have hs:=(asks_iff.1 h1).2.2.1.1;have hg:=(fitsG_iff.1 h4).2.2;have hw:=highs_within h3;have b:=tmF_bd hg hw p.2.2.1.length;unfold lastI;rw[playF_len,Nat.add_sub_cancel,highs_len,playF_getD _ _ (by rw[highs_len];exact Nat.le_refl _)];dsimp only at b⊢;omega
theorem tot_rng {en:DPlan→Int} (he:∀p,0≤en p∧en p≤134217728) (ps:List DPlan):∀k,0≤totG en ps k∧totG en ps k≤134217728*k
 |0=>⟨Int.le_refl _,Int.le_refl _⟩
 |k+1=>by
  have h1:=tot_rng he ps k;have h2:=he (ps.getD k dPlan);unfold totG;omega
end T
end Go.Proofs.YtcnfmabhghhdnaaGreat
end
