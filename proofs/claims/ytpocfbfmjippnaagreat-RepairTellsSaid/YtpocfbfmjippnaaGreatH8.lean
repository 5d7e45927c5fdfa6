/- Parts of the proof of the law; no condition. -/
import Derived.Test.YtpocfbfmjippnaaGreatH7
set_option linter.all false
section
namespace Go.Proofs.YtpocfbfmjippnaaGreat
def key (late:Bool) (x:Int):Int:=if late then-x else x
theorem timeB_iff {t:Int}:timeB t=true↔0≤t∧t≤1048576:=decide_eq_true_iff
theorem better_iff {late:Bool} {a b:Int} (hb:0≤b):betterB late a b=true↔key late a<key late b:=by
 unfold betterB key;rw[if_neg (by omega)];cases late<;>simp<;>omega
theorem better_neg {late:Bool} {a b:Int} (hb:b<0):betterB late a b=true:=by
 unfold betterB;rw[if_pos hb]
theorem pickTo_min (late:Bool) (L:List DLab) (S:List Bool):∀k,(pickTo late L S k<0→∀v<k,S.getD v false=false→(L.getD v (0,0)).1<0)∧
  (0≤pickTo late L S k→∀v<k,S.getD v false=false→0≤(L.getD v (0,0)).1→key late (L.getD (pickTo late L S k).toNat (0,0)).1≤key late (L.getD v (0,0)).1)
 |0=>⟨fun _ v h=>absurd h (Nat.not_lt_zero v),fun _ v h=>absurd h (Nat.not_lt_zero v)⟩
 |k+1=>by
  obtain ⟨i1,i2⟩:=pickTo_min late L S k;have un:=pickTo_un late L S k;by_cases c:S.getD k false=false∧0≤(L.getD k (0,0)).1∧(pickTo late L S k<0∨betterB late (L.getD k (0,0)).1 (L.getD (pickTo late L S k).toNat (0,0)).1=true)
  ·have e:pickTo late L S (k+1)=(k:Int):=if_pos c;rw[e];refine ⟨fun h=>by omega,fun _ v hv hs h0=>?_⟩;show key late (L.getD k (0,0)).1≤_;by_cases d:v=k
   ·subst d;exact Int.le_refl _
   ·rcases c.2.2 with h|h
    ·have:=i1 h v (by omega) hs;omega
    ·by_cases p:pickTo late L S k<0
     ·have:=i1 p v (by omega) hs;omega
     ·rw[better_iff (un (by omega)).2] at h;have:=i2 (by omega) v (by omega) hs h0;omega
  ·have e:pickTo late L S (k+1)=pickTo late L S k:=if_neg c;rw[e];refine ⟨fun h v hv hs=>?_,fun h v hv hs h0=>?_⟩
   ·by_cases d:v=k
    ·subst d;by_cases q:(L.getD v (0,0)).1<0
     ·exact q
     ·exact absurd ⟨hs,by omega,.inl h⟩ c
    ·exact i1 h v (by omega) hs
   ·by_cases d:v=k
    ·subst d;by_cases q:key late (L.getD (pickTo late L S v).toNat (0,0)).1≤key late (L.getD v (0,0)).1
     ·exact q
     ·exact absurd ⟨hs,h0,.inr ((better_iff (un h).2).2 (by omega))⟩ c
    ·exact i2 h v (by omega) hs h0
theorem reachF_spec {late:Bool} {S:List Bool} {L:List DLab} {v:Nat} {t b:Int} (hv:v<L.length) (w:Nat):
  ((reachF late S L v t b).getD w (0,0)=L.getD w (0,0)∨w=v∧S.getD v false=false∧timeB t=true∧(reachF late S L v t b).getD w (0,0)=(t,b)∧(0≤(L.getD v (0,0)).1→key late t≤key late (L.getD v (0,0)).1))∧
  (w=v→S.getD v false=false→timeB t=true→(0≤(L.getD v (0,0)).1∧key late (L.getD v (0,0)).1≤key late t∧(reachF late S L v t b).getD w (0,0)=L.getD w (0,0))∨(reachF late S L v t b).getD w (0,0)=(t,b)):=by
 unfold reachF
 by_cases c1:S.getD v false=true∨timeB t=false
 ·rw[if_pos c1]
  refine ⟨.inl rfl,fun _ hs ht=>?_⟩
  rw[hs,ht] at c1;simp at c1
 ·rw[if_neg c1]
  rw[not_or] at c1
  have hs:S.getD v false=false:=by simpa using c1.1
  have ht:timeB t=true:=by simpa using c1.2
  by_cases c2:betterB late t (L.getD v (0,0)).1=true∨t=(L.getD v (0,0)).1∧b<(L.getD v (0,0)).2
  ·rw[if_pos c2]
   have hle:0≤(L.getD v (0,0)).1→key late t≤key late (L.getD v (0,0)).1:=by
    intro h0;rcases c2 with h|h
    ·rw[better_iff h0] at h;omega
    ·rw[h.1];exact Int.le_refl _
   by_cases d:w=v
   ·subst d
    have e:(L.set w (t,b)).getD w (0,0)=(t,b):=by rw[List.getD_eq_getElem?_getD,List.getElem?_set_self hv];rfl
    exact ⟨.inr ⟨rfl,hs,ht,e,hle⟩,fun _ _ _=>.inr e⟩
   ·have e:(L.set v (t,b)).getD w (0,0)=L.getD w (0,0):=by rw[List.getD_eq_getElem?_getD,List.getElem?_set_ne (Ne.symm d),←List.getD_eq_getElem?_getD]
    exact ⟨.inl e,fun h=>absurd h d⟩
  ·rw[if_neg c2]
   refine ⟨.inl rfl,fun _ _ _=>.inl ?_⟩
   rw[not_or] at c2
   have h0:0≤(L.getD v (0,0)).1:=by
    by_cases q:(L.getD v (0,0)).1<0
    ·exact absurd (better_neg q) c2.1
    ·omega
   refine ⟨h0,?_,rfl⟩
   by_cases q:key late (L.getD v (0,0)).1≤key late t
   ·exact q
   ·exact absurd ((better_iff h0).2 (by omega)) c2.1
def Into (E:Nat→Move) (m n:Nat):Prop:=∀i<m,(0≤(E i).1∧(E i).1<n)∧0≤(E i).2.1∧(E i).2.1<n
theorem relaxTo_spec {late:Bool} {E:Nat→Move} {m n:Nat} (hE:Into E m n) {S:List Bool} {u:Nat} {L:List DLab} (hL:L.length=n) (hS:S.getD u false=true):∀k,k≤m→
  (∀w,((relaxTo late E S u k L).getD w (0,0)=L.getD w (0,0)∨S.getD w false=false∧∃i<k,(E i).1=u∧(E i).2.1=w∧timeB ((E i).2.2 (L.getD u (0,0)).1)=true∧(relaxTo late E S u k L).getD w (0,0)=((E i).2.2 (L.getD u (0,0)).1,(i:Int))∧(0≤(L.getD w (0,0)).1→key late ((E i).2.2 (L.getD u (0,0)).1)≤key late (L.getD w (0,0)).1)))∧
  (∀i<k,(E i).1=u→S.getD (E i).2.1.toNat false=false→timeB ((E i).2.2 (L.getD u (0,0)).1)=true→0≤((relaxTo late E S u k L).getD (E i).2.1.toNat (0,0)).1∧key late ((relaxTo late E S u k L).getD (E i).2.1.toNat (0,0)).1≤key late ((E i).2.2 (L.getD u (0,0)).1))
 |0,_=>⟨fun w=>.inl rfl,fun i h=>absurd h (Nat.not_lt_zero i)⟩
 |k+1,hk=>by
  obtain ⟨i1,i2⟩:=relaxTo_spec (late:=late) hE hL hS k (by omega);have hl:(relaxTo late E S u k L).length=n:=by rw[relaxTo_length,hL]
  have hu:(relaxTo late E S u k L).getD u (0,0)=L.getD u (0,0):=by
   rcases i1 u with h|h
   ·exact h
   ·rw[hS] at h;cases h.1
  by_cases c:(E k).1=u
  ·have e:relaxTo late E S u (k+1) L=reachF late S (relaxTo late E S u k L) (E k).2.1.toNat ((E k).2.2 (L.getD u (0,0)).1) k:=by rw[←hu];exact if_pos c
   have hv:=hE k (by omega);rw[e];generalize relaxTo late E S u k L=R at i1 i2 hl⊢;have sp:=fun w=>reachF_spec (late:=late) (S:=S) (t:=(E k).2.2 (L.getD u (0,0)).1) (b:=(k:Int)) (show (E k).2.1.toNat<R.length by omega) w;generalize reachF late S R (E k).2.1.toNat ((E k).2.2 (L.getD u (0,0)).1) k=R2 at sp⊢;refine ⟨fun w=>?_,fun i hi h1 h2 h3=>?_⟩
   ·rcases (sp w).1 with h|h
    ·rw[h];rcases i1 w with g|⟨g1,i,g2,g3⟩
     ·exact .inl g
     ·exact .inr ⟨g1,i,by omega,g3⟩
    ·obtain ⟨rfl,h2,h3,h4,h5⟩:=h;refine .inr ⟨h2,k,by omega,c,by omega,h3,h4,fun h0=>?_⟩;rcases i1 (E k).2.1.toNat with g|⟨g1,i,g2,g3,g4,g5,g6,g7⟩
     ·rw[g] at h5;exact h5 h0
     ·rw[g6] at h5;have h6:=h5 (timeB_iff.1 g5).1;have h7:=g7 h0;dsimp only at h6;omega
   ·by_cases d:i=k
    ·subst d;rcases (sp (E i).2.1.toNat).2 rfl h2 h3 with h|h
     ·rw[h.2.2];exact ⟨h.1,h.2.1⟩
     ·rw[h];exact ⟨(timeB_iff.1 h3).1,Int.le_refl _⟩
    ·obtain ⟨j1,j2⟩:=i2 i (by omega) h1 h2 h3;rcases (sp (E i).2.1.toNat).1 with h|h
     ·rw[h];exact ⟨j1,j2⟩
     ·obtain ⟨h4,h5,h6,h7,h8⟩:=h;rw[h7];rw[←h4] at h8;have:=h8 j1;have:=(timeB_iff.1 h6).1;dsimp only;exact ⟨by omega,by omega⟩
  ·have e:relaxTo late E S u (k+1) L=relaxTo late E S u k L:=if_neg c;rw[e];refine ⟨fun w=>?_,fun i hi h1 h2 h3=>?_⟩
   ·rcases i1 w with g|⟨g1,i,g2,g3⟩
    ·exact .inl g
    ·exact .inr ⟨g1,i,by omega,g3⟩
   ·by_cases d:i=k
    ·subst d;exact absurd h1 c
    ·exact i2 i (by omega) h1 h2 h3
structure SInv (late:Bool) (E:Nat→Move) (m n at_:Nat) (t:Int) (L:List DLab) (S:List Bool):Prop where
 hL:L.length=n
 hS:S.length=n
 val:∀v<n,L.getD v (0,0)=(-1,-1)∨timeB (L.getD v (0,0)).1=true
 src:L.getD at_ (0,0)=(t,-1)
 first:S.getD at_ false=true∨∀v<n,v≠at_→(L.getD v (0,0)).1<0
 rank:∃r:Nat→Nat,(∀v<n,S.getD v false=true→r v<S.count true)∧∀v<n,0≤(L.getD v (0,0)).1→v=at_∨∃i<m,(L.getD v (0,0)).2=(i:Int)∧(E i).2.1=v∧S.getD (E i).1.toNat false=true∧(L.getD v (0,0)).1=(E i).2.2 (L.getD (E i).1.toNat (0,0)).1∧(S.getD v false=true→r (E i).1.toNat<r v)
 done:∀v<n,S.getD v false=true→0≤(L.getD v (0,0)).1
 ord:∀u v,u<n→v<n→S.getD u false=true→S.getD v false=false→0≤(L.getD v (0,0)).1→key late (L.getD u (0,0)).1≤key late (L.getD v (0,0)).1
 closed:∀i<m,S.getD (E i).1.toNat false=true→timeB ((E i).2.2 (L.getD (E i).1.toNat (0,0)).1)=true→0≤(L.getD (E i).2.1.toNat (0,0)).1∧key late (L.getD (E i).2.1.toNat (0,0)).1≤key late ((E i).2.2 (L.getD (E i).1.toNat (0,0)).1)
def Goes (late:Bool) (E:Nat→Move) (m:Nat):Prop:=∀i<m,∀t,timeB t=true→timeB ((E i).2.2 t)=true→key late t≤key late ((E i).2.2 t)
theorem count_true_set {S:List Bool} {u:Nat} (hu:u<S.length) (h:S.getD u false=false):(S.set u true).count true=S.count true+1:=by
 rw[List.getD_eq_getElem?_getD,List.getElem?_eq_getElem hu] at h;replace h:S[u]=false:=h;rw[List.count_set hu,h];simp
theorem getD_settle {S:List Bool} {u:Nat} (hu:u<S.length) (v:Nat):(S.set u true).getD v false=if v=u then true else S.getD v false:=by
 rw[List.getD_eq_getElem?_getD,List.getElem?_set];by_cases c:u=v
 ·subst c;rw[if_pos rfl,if_pos hu,if_pos rfl];rfl
 ·rw[if_neg c,if_neg (Ne.symm c),←List.getD_eq_getElem?_getD]
theorem SInv.step {late:Bool} {E:Nat→Move} {m n at_:Nat} {t:Int} {L:List DLab} {S:List Bool} (hE:Into E m n) (hG:Goes late E m) (ha:at_<n) (ht:timeB t=true) (h:SInv late E m n at_ t L S) {u:Nat} (hp:pickTo late L S L.length=u):
  SInv late E m n at_ t (relaxTo late E (S.set u true) u m L) (S.set u true):=by
 obtain ⟨hL,hS,val,src,first,⟨r,r1,r2⟩,done,ord,closed⟩:=h
 have hu:u<n:=by have:=pickTo_bd late L S L.length;omega
 have hun:=pickTo_un late L S L.length (by omega)
 have hmin:=(pickTo_min late L S L.length).2 (by omega)
 rw[hp] at hun hmin
 change S.getD u false=false∧0≤(L.getD u (0,0)).1 at hun
 change∀v,v<L.length→S.getD v false=false→0≤(L.getD v (0,0)).1→key late (L.getD u (0,0)).1≤key late (L.getD v (0,0)).1 at hmin
 have g:=getD_settle (S:=S) (u:=u) (by omega)
 have gu:(S.set u true).getD u false=true:=by rw[g,if_pos rfl]
 have gf:∀v,(S.set u true).getD v false=false→v≠u∧S.getD v false=false:=by
  intro v hv;rw[g] at hv;split at hv
  ·cases hv
  ·exact ⟨‹_›,hv⟩
 have ut:timeB (L.getD u (0,0)).1=true:=by
  rcases val u hu with h|h
  ·rw[h] at hun;exact absurd hun.2 (by decide)
  ·exact h
 obtain ⟨s1,s2⟩:=relaxTo_spec (late:=late) hE hL gu m (Nat.le_refl _)
 have hcnt:=count_true_set (S:=S) (u:=u) (by omega) hun.1
 have hlen:(relaxTo late E (S.set u true) u m L).length=n:=by rw[relaxTo_length,hL]
 generalize relaxTo late E (S.set u true) u m L=R at s1 s2 hlen⊢
 have keep:∀v,(S.set u true).getD v false=true→R.getD v (0,0)=L.getD v (0,0):=by
  intro v hv;rcases s1 v with h|h
  ·exact h
  ·rw[hv] at h;cases h.1
 have hat:(S.set u true).getD at_ false=true:=by
  rw[g];split
  ·rfl
  ·rename_i hne;rcases first with h|h
   ·exact h
   ·have:=h u hu (Ne.symm hne);omega
 refine ⟨hlen,by rw[List.length_set,hS],fun v hv=>?_,by rw[keep _ hat,src],.inl hat,⟨fun v=>if v=u then S.count true else r v,fun v hv h1=>?_,fun v hv h1=>?_⟩,fun v hv h1=>?_,fun w v hw hv h1 h2 h3=>?_,fun i hi h1 h2=>?_⟩
 ·rcases s1 v with h|⟨_,i,_,_,_,h4,h5,_⟩
  ·rw[h];exact val v hv
  ·rw[h5];exact .inr h4
 ·rw[hcnt]
  dsimp only
  split
  ·omega
  ·rename_i hne
   rw[g,if_neg hne] at h1
   have:=r1 v hv h1;omega
 ·dsimp only
  rcases s1 v with h|⟨h0,i,hi,h2,h3,h4,h5,_⟩
  ·rw[h] at h1⊢
   rcases r2 v hv h1 with h2|⟨i,hi,j1,j2,j3,j4,j5⟩
   ·exact .inl h2
   ·have hf:=hE i hi
    have hne:(E i).1.toNat≠u:=fun e=>by rw[e,hun.1] at j3;cases j3
    have hk:(S.set u true).getD (E i).1.toNat false=true:=by rw[g,if_neg hne,j3]
    refine .inr ⟨i,hi,j1,j2,hk,by rw[keep _ hk];exact j4,fun hs=>?_⟩
    rw[if_neg hne]
    split
    ·exact r1 _ (by omega) j3
    ·rename_i hne2
     rw[g,if_neg hne2] at hs
     exact j5 hs
  ·refine .inr ⟨i,hi,by rw[h5],h3,by rw[h2];exact gu,by rw[h5,h2];show _=(E i).2.2 (R.getD u (0,0)).1;rw[keep u gu],fun hs=>?_⟩
   rw[hs] at h0;cases h0
 ·rw[keep v h1]
  rw[g] at h1
  split at h1
  ·rename_i e;rw[e];exact hun.2
  ·exact done v hv h1
 ·rw[keep w h1]
  obtain ⟨v1,v2⟩:=gf v h2
  have hwu:key late (L.getD w (0,0)).1≤key late (L.getD u (0,0)).1:=by
   rw[g] at h1;split at h1
   ·rename_i e;rw[e];exact Int.le_refl _
   ·exact ord w u hw hu h1 hun.1 hun.2
  rcases s1 v with h|⟨_,i,hi,_,_,h5,h6,_⟩
  ·rw[h] at h3⊢
   have:=hmin v (by omega) v2 h3
   omega
  ·rw[h6]
   have:=hG i hi _ ut h5
   dsimp only
   omega
 ·rw[keep _ h1] at h2⊢
  have hf:=hE i hi
  by_cases c:(E i).1.toNat=u
  ·rw[c] at h2⊢
   by_cases d:(S.set u true).getD (E i).2.1.toNat false=true
   ·rw[keep _ d]
    have d2:=d
    rw[g] at d
    have:=hG i hi _ ut h2
    split at d
    ·rename_i e
     rw[e];exact ⟨hun.2,this⟩
    ·have h4:=ord _ u (by omega) hu d hun.1 hun.2
     exact ⟨done _ (by omega) d,by omega⟩
   ·exact s2 i hi (by omega) (by simpa using d) h2
  ·rw[g,if_neg c] at h1
   obtain ⟨c1,c2⟩:=closed i hi h1 h2
   rcases s1 (E i).2.1.toNat with h|⟨_,j,_,_,_,h5,h6,h7⟩
   ·rw[h];exact ⟨c1,c2⟩
   ·rw[h6]
    have:=h7 c1
    have:=(timeB_iff.1 h5).1
    dsimp only
    exact ⟨by omega,by omega⟩
structure Found (late:Bool) (E:Nat→Move) (m n at_:Nat) (t:Int) (L:List DLab):Prop where
 hL:L.length=n
 val:∀v<n,L.getD v (0,0)=(-1,-1)∨timeB (L.getD v (0,0)).1=true
 src:L.getD at_ (0,0)=(t,-1)
 rank:∃r:Nat→Nat,(∀v<n,0≤(L.getD v (0,0)).1→r v<n)∧∀v<n,0≤(L.getD v (0,0)).1→v=at_∨∃i<m,(L.getD v (0,0)).2=(i:Int)∧(E i).2.1=v∧0≤(L.getD (E i).1.toNat (0,0)).1∧(L.getD v (0,0)).1=(E i).2.2 (L.getD (E i).1.toNat (0,0)).1∧r (E i).1.toNat<r v
 closed:∀i<m,0≤(L.getD (E i).1.toNat (0,0)).1→timeB ((E i).2.2 (L.getD (E i).1.toNat (0,0)).1)=true→0≤(L.getD (E i).2.1.toNat (0,0)).1∧key late (L.getD (E i).2.1.toNat (0,0)).1≤key late ((E i).2.2 (L.getD (E i).1.toNat (0,0)).1)
def wayGo (L:List DLab) (A:List (Int×Int×List Int×List Int)):Nat→Int→List Int→List Int
 |0,to,out=>if (L.getD to.toNat (0,0)).2= -1 then out else []
 |f+1,to,out=>if (L.getD to.toNat (0,0)).2= -1 then out else
  if (L.getD to.toNat (0,0)).2<0∨A.length≤(L.getD to.toNat (0,0)).2∨(A.getD (L.getD to.toNat (0,0)).2.toNat (0,0,[],[])).2.1≠to∨(A.getD (L.getD to.toNat (0,0)).2.toNat (0,0,[],[])).1<0∨L.length≤(A.getD (L.getD to.toNat (0,0)).2.toNat (0,0,[],[])).1 then []
  else wayGo L A f (A.getD (L.getD to.toNat (0,0)).2.toNat (0,0,[],[])).1 ((L.getD to.toNat (0,0)).2::out)
def wayF (L:List DLab) (A:List (Int×Int×List Int×List Int)) (to:Int):List Int:=
 if to<0∨L.length≤to∨(L.getD to.toNat (0,0)).1= -1 then [] else wayGo L A L.length to []
end Go.Proofs.YtpocfbfmjippnaaGreat
end
