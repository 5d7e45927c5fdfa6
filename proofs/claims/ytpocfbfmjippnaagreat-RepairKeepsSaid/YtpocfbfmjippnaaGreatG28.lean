/- Parts of the proof of the law; no condition. -/
import Derived.Test.YtpocfbfmjippnaaGreatG26
set_option linter.all false
section
namespace Go.Proofs.YtpocfbfmjippnaaGreat
namespace T
theorem tm_0 (g t:List Int):tmF g t 0=if 0<g.getD 0 0 then g.getD 0 0 else 0:=rfl
theorem tm_s (g t:List Int) (k:Nat):tmF g t (k+1)=if tmF g t k+t.getD k 0<g.getD (k+1) 0 then g.getD (k+1) 0 else tmF g t k+t.getD k 0:=rfl
theorem tm_ge (g t:List Int):∀k,g.getD k 0≤tmF g t k
 |0=>by rw[tm_0];split<;>omega
 |k+1=>by rw[tm_s];split<;>omega
theorem tm_mono {g t u:List Int}:∀k,(∀j,j<k→t.getD j 0≤u.getD j 0)→tmF g t k≤tmF g u k
 |0,_=>Int.le_refl _
 |k+1,h=>by
  have h1:=tm_mono (g:=g) k (fun j hj=>h j (by omega));have h2:=h k (by omega);rw[tm_s,tm_s];split<;>split<;>omega
theorem tm_short {g t:List Int} {L:List DLeg} {k:Nat}:∀d,(∀j,k≤j→j<k+d→t.getD j 0≤(L.getD j (0,0)).2)→tmF g t (k+d)≤tmF g t k+(psF L (k+d)-psF L k)∨∃i,i<d∧tmF g t (k+d)≤g.getD (k+1+i) 0+(psF L (k+d)-psF L (k+1+i))
 |0,_=>by rw[Nat.add_zero];exact .inl (by omega)
 |d+1,h=>by
  have h2:=h (k+d) (by omega) (by omega);have e:psF L (k+d+1)=psF L (k+d)+(L.getD (k+d) (0,0)).2:=rfl;rw[←Nat.add_assoc,tm_s,e];split
  ·exact .inr ⟨d,by omega,by rw[show k+1+d=k+d+1 by omega,e];omega⟩
  ·rcases tm_short (g:=g) d (fun j h1 h2=>h j h1 (by omega)) with h1|⟨i,hi,h1⟩
   ·exact .inl (by omega)
   ·exact .inr ⟨i,by omega,by omega⟩
theorem cut_getD {l h:List Int} {k j:Nat} (hl:l.length=h.length) (hk:k≤l.length):(l.take k++h.drop k).getD j 0=if j<k then l.getD j 0 else h.getD j 0:=by
 have e:(l.take k).length=k:=by rw[List.length_take];omega
 simp only[List.getD];split
 ·rename_i c;rw[List.getElem?_append_left (by omega),List.getElem?_take_of_lt c]
 ·rename_i c;rw[List.getElem?_append_right (by omega),e,List.getElem?_drop,show k+(j-k)=j by omega]
theorem cut_len {l h:List Int} {k:Nat} (hl:l.length=h.length) (hk:k≤l.length):(l.take k++h.drop k).length=l.length:=by
 rw[List.length_append,List.length_take,List.length_drop];omega
theorem cut_took {c:DChain} (h:rightC c=true) {k:Nat} (hk:k≤c.2.1.length):tookB c.2.1 ((lowsF c.2.1).take k++(highsF c.2.1).drop k)=true:=by
 have hl:(lowsF c.2.1).length=(highsF c.2.1).length:=by rw[lows_len,highs_len]
 have hk':k≤(lowsF c.2.1).length:=by rw[lows_len];exact hk
 refine tookB_iff.2 ⟨by rw[cut_len hl hk',lows_len],fun j hj=>?_⟩;have h1:=right_leg h hj;rw[cut_getD hl hk',lows_getD,highs_getD];split<;>omega
theorem cut_run {c:DChain} {g:List Int} (h:fitsG c g=true) {k:Nat} (hk:k≤c.2.1.length):(rnF c g ((lowsF c.2.1).take k++(highsF c.2.1).drop k)).1=playF g ((lowsF c.2.1).take k++(highsF c.2.1).drop k):=by
 unfold rnF;rw[if_pos ⟨h,cut_took (fitsG_iff.1 h).1 hk⟩]
theorem keeps20_iff {c:DChain} {g:List Int}:keeps20 c g=true↔(cutF c g (lowsF c.2.1) (highsF c.2.1) 0=true∧cutF c g (lowsF c.2.1) (highsF c.2.1) c.2.1.length=true)∧∀r∈c.2.2,cutF c g (lowsF c.2.1) (highsF c.2.1) r.1.toNat=true:=by
 unfold keeps20;simp only[Bool.and_eq_true,List.all_eq_true]
theorem keep_mk {c:DChain} {g t:List Int} (h:rightC c=true) (ht:t.length=c.2.1.length) (hw:∀k,k<c.1.length→(c.1.getD k (0,0)).1≤tmF g t k∧tmF g t k≤(c.1.getD k (0,0)).2) (hr:∀r∈c.2.2,tmF g t r.2.1.toNat-tmF g t r.1.toNat≤r.2.2):keepsF c (playF g t)=true:=by
 have h1:=(rightC_iff.1 h).1;refine keepsF_iff.2 ⟨h,by rw[playF_len];omega,fun k hk=>?_,fun r hr'=>?_⟩
 ·rw[playF_getD g t (by omega)];exact hw k hk
 ·have h4:=(rightC_iff.1 h).2.2.2 r hr';rw[playF_getD g t (by omega),playF_getD g t (by omega)];exact hr r hr'
theorem mF_ge {c:DChain} {k:Nat} {rest:List Int} {r:DRide} {a:Int}:∀n,a≤mF c k rest r a n∧∀i,i<n→rest.getD i 0+(psF c.2.1 r.2.1.toNat-psF c.2.1 (k+1+i))-r.2.2≤mF c k rest r a n
 |0=>⟨Int.le_refl _,fun i hi=>by omega⟩
 |n+1=>by
  obtain ⟨h1,h2⟩:=mF_ge (c:=c) (k:=k) (rest:=rest) (r:=r) (a:=a) n;have h3:=maxI_ge (mF c k rest r a n) (rest.getD n 0+(psF c.2.1 r.2.1.toNat-psF c.2.1 (k+1+n))-r.2.2);refine ⟨Int.le_trans h1 h3.1,fun i hi=>?_⟩;rcases Nat.lt_or_ge i n with c'|c'
  ·exact Int.le_trans (h2 i c') h3.1
  ·obtain rfl:i=n:=by omega
   exact h3.2.1
theorem rF_ge {c:DChain} {k:Nat} {rest:List Int} {a:Int} {r:DRide}:a≤rF c k rest a r∧(r.1=k→∀i,i<r.2.1.toNat-k→rest.getD i 0+(psF c.2.1 r.2.1.toNat-psF c.2.1 (k+1+i))-r.2.2≤rF c k rest a r):=by
 unfold rF;split
 ·have:=mF_ge (c:=c) (k:=k) (rest:=rest) (r:=r) (a:=a) (r.2.1.toNat-k);exact ⟨this.1,fun _=>this.2⟩
 ·rename_i h;exact ⟨Int.le_refl _,fun q=>absurd q h⟩
theorem rFold_ge {c:DChain} {k:Nat} {rest:List Int}:∀(l:List DRide) (a:Int),a≤l.foldl (rF c k rest) a∧∀r∈l,r.1=k→∀i,i<r.2.1.toNat-k→rest.getD i 0+(psF c.2.1 r.2.1.toNat-psF c.2.1 (k+1+i))-r.2.2≤l.foldl (rF c k rest) a
 |[],a=>⟨Int.le_refl _,fun r hr=>absurd hr List.not_mem_nil⟩
 |x::l,a=>by
  obtain ⟨h1,h2⟩:=rFold_ge (c:=c) (k:=k) (rest:=rest) l (rF c k rest a x);have h3:=rF_ge (c:=c) (k:=k) (rest:=rest) (a:=a) (r:=x);refine ⟨Int.le_trans h3.1 h1,fun r hr e i hi=>?_⟩;rcases List.mem_cons.1 hr with rfl|hr
  ·exact Int.le_trans (h3.2 e i hi) h1
  ·exact h2 r hr e i hi
theorem gs_shift (c:DChain) (j:Nat):∀i q,(gsF c (j+i)).getD (i+q) 0=(gsF c j).getD q 0
 |0,q=>by rw[Nat.zero_add];rfl
 |i+1,q=>by
  have:=gs_shift c j i q;show (gkF c _ (gsF c (j+i))::gsF c (j+i)).getD (i+1+q) 0=_;rw[show i+1+q=(i+q)+1 by omega,List.getD_cons_succ];exact this
def gsA (c:DChain) (k:Nat):Int:=(gsF c c.1.length).getD k 0
theorem gsA_rest (c:DChain) {k:Nat} (hk:k<c.1.length) (q:Nat):(gsF c (c.1.length-(k+1))).getD q 0=gsA c (k+1+q):=by
 have:=gs_shift c (c.1.length-(k+1)) (k+1) q;rw[show c.1.length-(k+1)+(k+1)=c.1.length by omega] at this;exact this.symm
theorem gsA_eq (c:DChain) {k:Nat} (hk:k<c.1.length):gsA c k=gkF c k (gsF c (c.1.length-(k+1))):=by
 have:=gs_shift c (c.1.length-k) k 0;rw[show c.1.length-k+k=c.1.length by omega,gs_step c hk,List.getD_cons_zero] at this;exact this
theorem gsA_ge {c:DChain} {k:Nat} (hk:k<c.1.length):(c.1.getD k (0,0)).1≤gsA c k∧∀r∈c.2.2,r.1=k→∀i,i<r.2.1.toNat-k→gsA c (k+1+i)+(psF c.2.1 r.2.1.toNat-psF c.2.1 (k+1+i))-r.2.2≤gsA c k:=by
 rw[gsA_eq c hk];obtain ⟨h1,h2⟩:=rFold_ge (c:=c) (k:=k) (rest:=gsF c (c.1.length-(k+1))) c.2.2 (c.1.getD k (0,0)).1;refine ⟨h1,fun r hr e i hi=>?_⟩;rw[←gsA_rest c hk];exact h2 r hr e i hi
theorem guard_keeps {c:DChain} (h:(guardF c).2=0) {t:List Int} (ht:tookB c.2.1 t=true):keepsF c (playF (guardF c).1 t)=true:=by
 unfold guardF at h⊢;by_cases h1:rightC c=false
 ·rw[if_pos h1] at h;cases h
 by_cases h2:c.2.2.any (lateR c)=true
 ·rw[if_neg h1,if_pos h2] at h;cases h
 by_cases h3:inTime c (playF (gsF c c.1.length) (highsF c.2.1))=false
 ·rw[if_neg h1,if_neg h2,if_pos h3] at h;cases h
 rw[if_neg h1,if_neg h2,if_neg h3];show keepsF c (playF (gsF c c.1.length) t)=true;have hr:rightC c=true:=by rwa [Bool.not_eq_false] at h1
 have hn:=(rightC_iff.1 hr).1;rw[Bool.not_eq_false] at h3;have hl:=late_none h2;obtain ⟨t1,t2⟩:=tookB_iff.1 ht;refine keep_mk hr t1 (fun k hk=>⟨Int.le_trans (gsA_ge hk).1 (tm_ge _ _ k),?_⟩) fun r hr'=>?_
 ·have h4:=inTime_iff.1 h3 k (by rw[playF_len,highs_len];omega);rw[playF_getD _ _ (by rw[highs_len];omega)] at h4;refine Int.le_trans (tm_mono k fun j hj=>?_) h4;rw[highs_getD];exact (t2 j (by omega)).2
 ·have h4:=(rightC_iff.1 hr).2.2.2 r hr';have h5:=hl r hr';unfold lateR at h5;have h5:=of_decide_eq_false h5;have h6:=tm_short (g:=gsF c c.1.length) (t:=t) (L:=c.2.1) (k:=r.1.toNat) (r.2.1.toNat-r.1.toNat) (fun j h1 h2=>(t2 j (by omega)).2);rw[show r.1.toNat+(r.2.1.toNat-r.1.toNat)=r.2.1.toNat by omega] at h6;rcases h6 with h6|⟨i,hi,h6⟩
  ·omega
  ·have h7:=(gsA_ge (c:=c) (k:=r.1.toNat) (by omega)).2 r hr' (by omega) i hi;have h8:=tm_ge (gsF c c.1.length) t r.1.toNat;unfold gsA at h7;omega
end T
end Go.Proofs.YtpocfbfmjippnaaGreat
end
