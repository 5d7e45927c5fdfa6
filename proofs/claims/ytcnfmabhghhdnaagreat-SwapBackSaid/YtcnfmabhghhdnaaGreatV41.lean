/- Parts of the proof (put together by a program): definitions, lemmas, and the law; no condition. -/
import Derived.Test.YtcnfmabhghhdnaaGreatV40
import Derived.Test.YtcnfmabhghhdnaaGreatV6
set_option linter.unusedVariables false
set_option linter.unusedSimpArgs false
section
namespace Go.Proofs.YtcnfmabhghhdnaaGreat
namespace T
theorem scan_spec (mk:Int→List DStop→DPlan × Int) (en:DPlan→Int) (ps:List DPlan):∀ (l:List DMove) (a:DAcc),(l.foldl (stepG mk en ps) a).2≤a.2∧(∀ m ∈ l,(movedG mk ps m).2=0→(l.foldl (stepG mk en ps) a).2≤totG en (movedG mk ps m).1 (movedG mk ps m).1.length) ∧
  (l.foldl (stepG mk en ps) a=a∨∃ m ∈ l,l.foldl (stepG mk en ps) a=(some (m,(movedG mk ps m).1),totG en (movedG mk ps m).1 (movedG mk ps m).1.length)∧(movedG mk ps m).2=0∧totG en (movedG mk ps m).1 (movedG mk ps m).1.length < a.2)
 | [],a=>⟨Int.le_refl _,fun m hm=>absurd hm (by simp),.inl rfl⟩
 | m :: l,a=>by
  rw [List.foldl_cons]
  obtain ⟨h1,h2,h3⟩:=scan_spec mk en ps l (stepG mk en ps a m)
  have hs:(stepG mk en ps a m).2≤a.2∧((movedG mk ps m).2=0→(stepG mk en ps a m).2≤totG en (movedG mk ps m).1 (movedG mk ps m).1.length)∧(stepG mk en ps a m=a∨stepG mk en ps a m=(some (m,(movedG mk ps m).1),totG en (movedG mk ps m).1 (movedG mk ps m).1.length)∧(movedG mk ps m).2=0∧totG en (movedG mk ps m).1 (movedG mk ps m).1.length < a.2):=by
   unfold stepG
   by_cases c:(movedG mk ps m).2=0∧totG en (movedG mk ps m).1 (movedG mk ps m).1.length < a.2
   ·rw [if_pos c]
    exact ⟨by dsimp only;omega,fun _=>Int.le_refl _,.inr ⟨rfl,c.1,c.2⟩⟩
   ·rw [if_neg c]
    exact ⟨Int.le_refl _,fun h=>by omega,.inl rfl⟩
  obtain ⟨s1,s2,s3⟩:=hs
  refine ⟨by omega,fun x hx hx0=>?_,?_⟩
  ·rcases List.mem_cons.1 hx with rfl | hx
   ·exact Int.le_trans h1 (s2 hx0)
   ·exact h2 x hx hx0
  ·rcases h3 with h3 | ⟨x,hx,e1,e2,e3⟩
   ·rcases s3 with s3 | ⟨e1,e2,e3⟩
    ·exact .inl (h3.trans s3)
    ·exact .inr ⟨m,.head _,h3.trans e1,e2,e3⟩
   ·exact .inr ⟨x,.tail _ hx,e1,e2,by omega⟩
theorem scan_none {w:DWorld} {ps:List DPlan} (h:(scanF w ps).1=none):∀ m ∈ movesF w.2.2.2.1.length ps,(movedF w ps m).2=0→totalF w ps≤totalF w (movedF w ps m).1:=by
 intro m hm h0
 obtain ⟨_,h2,h3⟩:=scan_spec (makeF w) (endF w) ps (movesF w.2.2.2.1.length ps) (none,totG (endF w) ps ps.length)
 unfold scanF scanG at h
 rcases h3 with h3 | ⟨x,_,e,_⟩
 ·have:=h2 m hm h0
  rw [h3] at this
  exact this
 ·rw [e] at h;cases h
theorem scan_some {w:DWorld} {ps:List DPlan} {m:DMove} {next:List DPlan} (h:(scanF w ps).1=some (m,next)):next=(movedF w ps m).1∧(movedF w ps m).2=0∧totalF w next < totalF w ps∧scanF w ps=(some (m,next),totalF w next)∧m ∈ movesF w.2.2.2.1.length ps:=by
 obtain ⟨_,_,h3⟩:=scan_spec (makeF w) (endF w) ps (movesF w.2.2.2.1.length ps) (none,totG (endF w) ps ps.length)
 unfold scanF scanG at h ⊢
 rcases h3 with h3 | ⟨x,hx,e,e2,e3⟩
 ·rw [h3] at h;cases h
 ·rw [e] at h ⊢
  obtain ⟨rfl,rfl⟩:x=m∧(movedG (makeF w) ps x).1=next:=by
   have:=Option.some.inj h
   exact ⟨congrArg Prod.fst this,congrArg Prod.snd this⟩
  exact ⟨rfl,e2,e3,rfl,hx⟩
def ChainM (w:DWorld):List DPlan→List DMove→List DPlan→Prop
 | ps,[],l=>ps=l
 | ps,m :: ms,l=>(movedF w ps m).2=0∧totalF w (movedF w ps m).1 < totalF w ps∧ChainM w (movedF w ps m).1 ms l
theorem imp_spec (w:DWorld):∀ (k:Nat) (now:List DPlan) (made:List DMove),(impF w k now made).2.2≠0∧impF w k now made=([],[],6)∨(impF w k now made).2.2=0∧∃ ms,(impF w k now made).2.1=made ++ ms∧ms.length≤k∧ChainM w now ms (impF w k now made).1∧(scanF w (impF w k now made).1).1=none
 | 0,now,made=>.inl ⟨by show (6:Int)≠0;decide,rfl⟩
 | k+1,now,made=>by
  have e:impF w (k+1) now made=match (scanF w now).1 with
   | none=>(now,made,0)
   | some x=>impF w k x.2 (made ++ [x.1]):=rfl
  rw [e]
  cases h:(scanF w now).1 with
  | none=>exact .inr ⟨rfl,[],by simp,Nat.zero_le _,rfl,h⟩
  | some x =>
   obtain ⟨m,next⟩:=x
   obtain ⟨h1,h2,h3,_,_⟩:=scan_some h
   dsimp only
   rcases imp_spec w k next (made ++ [m]) with q | ⟨q,ms,q1,q2,q3,q4⟩
   ·exact .inl q
   ·refine .inr ⟨q,m :: ms,by rw [q1];simp,by simpa using q2,⟨h2,by rw [← h1];exact h3,by rw [← h1];exact q3⟩,q4⟩
theorem chain_spec {w:DWorld}:∀ {ms:List DMove} {ps l:List DPlan},RightPs w ps→ChainM w ps ms l→RightPs w l∧l.length=ps.length∧(ms=[]∧l=ps∨ms≠[]∧totalF w l < totalF w ps)∧∀ s,inPs l s ↔ inPs ps s
 | [],ps,l,hr,h=>by
  have h:ps=l:=h
  subst h
  exact ⟨hr,rfl,.inl ⟨rfl,rfl⟩,fun s=>Iff.rfl⟩
 | m :: ms,ps,l,hr,h=>by
  obtain ⟨h1,h2,h3⟩:=h
  have hr2:=moved_right hr h1
  obtain ⟨q1,q2,q3,q4⟩:=chain_spec hr2 h3
  refine ⟨q1,by rw [q1.2.1,hr.2.1],.inr ⟨by simp,?_⟩,fun s=>(q4 s).trans (moved_in hr h1 s)⟩
  rcases q3 with ⟨_,q⟩ | ⟨_,q⟩
  ·rw [q];exact h2
  ·omega
def stN (w:DWorld) (ps:List DPlan) (ms:List DMove):Nat→List DPlan
 | 0=>ps
 | k+1=>(movedF w (stN w ps ms k) (ms.getD k dMove)).1
theorem chain_at {w:DWorld} {ps l:List DPlan} {ms:List DMove} (hr:RightPs w ps) (h:ChainM w ps ms l):∀ k,k≤ms.length→ChainM w (stN w ps ms k) (ms.drop k) l∧RightPs w (stN w ps ms k)
 | 0,_=>⟨h,hr⟩
 | k+1,hk=>by
  obtain ⟨h1,h2⟩:=chain_at hr h k (by omega)
  rw [List.drop_eq_getElem_cons (show k < ms.length by omega)] at h1
  obtain ⟨q1,q2,q3⟩:=h1
  unfold stN
  rw [show ms.getD k dMove=ms[k] by simp [List.getD,show k < ms.length by omega]]
  exact ⟨q3,moved_right h2 q1⟩
theorem chain_step {w:DWorld} {ps l:List DPlan} {ms:List DMove} (hr:RightPs w ps) (h:ChainM w ps ms l) {k:Nat} (hk:k < ms.length):(movedF w (stN w ps ms k) (ms.getD k dMove)).2=0∧totalF w (stN w ps ms (k+1)) < totalF w (stN w ps ms k):=by
 have h1:=(chain_at hr h k (by omega)).1
 rw [List.drop_eq_getElem_cons hk] at h1
 obtain ⟨q1,q2,q3⟩:=h1
 have e:stN w ps ms (k+1)=(movedF w (stN w ps ms k) (ms.getD k dMove)).1:=rfl
 rw [e,show ms.getD k dMove=ms[k] by simp [List.getD,hk]]
 exact ⟨q1,q2⟩
theorem chain_end {w:DWorld} {ps l:List DPlan} {ms:List DMove} (hr:RightPs w ps) (h:ChainM w ps ms l):stN w ps ms ms.length=l:=by
 have h1:=(chain_at hr h ms.length (Nat.le_refl _)).1
 rw [List.drop_length] at h1
 exact h1
theorem moved_mem {w:DWorld} {ps:List DPlan} (hr:RightPs w ps) {m:DMove} (h:(movedF w ps m).2=0):m ∈ movesF w.2.2.2.1.length ps:=by
 obtain ⟨f,t,p,d,em,hp⟩:=moved_has hr h
 obtain ⟨k,hk,e⟩:=List.getElem_of_mem hp.hm
 have hrq:=((hr.stops hp.hf).2 k hk).1
 rw [getD_get hk,e] at hrq
 dsimp only at hrq
 obtain ⟨r,hrn⟩:∃ r:Nat,m.1=r:=⟨m.1.toNat,by omega⟩
 have hfr:fromF ps r=f:=by
  unfold fromF
  refine idxF_at (d:=dPlan) hp.hf (fun j hj=>?_) ?_
  ·refine decide_eq_false fun hm=>?_
   have:=hr.one (by have:=hp.hf;omega) hp.hf hm hp.hm hrn.symm
   omega
  ·rw [← hrn];exact decide_eq_true hp.hm
 unfold movesF
 rw [List.mem_flatMap]
 refine ⟨r,List.mem_range.2 (by omega),?_⟩
 rw [hfr,if_neg (by omega)]
 unfold tosF
 rw [List.mem_flatMap]
 refine ⟨t,List.mem_range.2 hp.ht,?_⟩
 unfold picksF
 rw [List.mem_flatMap]
 have h1:=hp.hpd
 have h2:=hp.hd
 rw [hrn] at h2
 refine ⟨p,List.mem_range.2 (by omega),?_⟩
 unfold dropsF
 rw [List.mem_map]
 refine ⟨d - p,List.mem_range.2 (by omega),?_⟩
 rw [em,hrn,show p+(d - p)=d by omega]
def cntN (ps:List DPlan) (s:DStop):Nat→Int
 | 0=>0
 | k+1=>cntN ps s k+if s ∈ (ps.getD k dPlan).2.1 then 1 else 0
theorem cnt_spec {w:DWorld} {ps:List DPlan} (hr:RightPs w ps) (s:DStop):∀ k,k≤ps.length→cntN ps s k=0∧(∀ i,i < k→s ∉ (ps.getD i dPlan).2.1)∨cntN ps s k=1∧∃ i,i < k∧s ∈ (ps.getD i dPlan).2.1
 | 0,_=>.inl ⟨rfl,fun i hi=>absurd hi (Nat.not_lt_zero _)⟩
 | k+1,hk=>by
  unfold cntN
  by_cases c:s ∈ (ps.getD k dPlan).2.1
  ·rw [if_pos c]
   rcases cnt_spec hr s k (by omega) with ⟨h1,h2⟩ | ⟨h1,i,hi,h2⟩
   ·exact .inr ⟨by omega,k,by omega,c⟩
   ·have:=hr.one (by omega) (by omega) h2 c rfl
    omega
  ·rw [if_neg c]
   rcases cnt_spec hr s k (by omega) with ⟨h1,h2⟩ | ⟨h1,i,hi,h2⟩
   ·refine .inl ⟨by omega,fun i hi=>?_⟩
    rcases Nat.lt_or_ge i k with q | q
    ·exact h2 i q
    ·rw [show i=k by omega];exact c
   ·exact .inr ⟨by omega,i,by omega,h2⟩
theorem cnt_same {w:DWorld} {ps l:List DPlan} (hr:RightPs w ps) (hl:RightPs w l) {s:DStop} (h:inPs l s ↔ inPs ps s):cntN l s l.length=cntN ps s ps.length:=by
 rcases cnt_spec hr s _ (Nat.le_refl _) with ⟨h1,h2⟩ | ⟨h1,i,hi,h2⟩
 ·rcases cnt_spec hl s _ (Nat.le_refl _) with ⟨q1,q2⟩ | ⟨q1,j,hj,q2⟩
  ·omega
  ·obtain ⟨i,hi,h3⟩:=h.1 ⟨j,hj,q2⟩
   exact absurd h3 (h2 i hi)
 ·rcases cnt_spec hl s _ (Nat.le_refl _) with ⟨q1,q2⟩ | ⟨q1,j,hj,q2⟩
  ·obtain ⟨j,hj,h3⟩:=h.2 ⟨i,hi,h2⟩
   exact absurd h3 (q2 j hj)
  ·omega
end T
end Go.Proofs.YtcnfmabhghhdnaaGreat
end
