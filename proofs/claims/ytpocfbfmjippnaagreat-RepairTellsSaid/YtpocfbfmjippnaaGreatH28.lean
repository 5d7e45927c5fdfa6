/- Parts of the proof of the law; no condition. -/
import Derived.Test.YtpocfbfmjippnaaGreatH27
set_option linter.all false
section
namespace Go.Proofs.YtpocfbfmjippnaaGreat
namespace T
theorem tm_0 (g t:List Int):tmF g t 0=if 0<g.getD 0 0 then g.getD 0 0 else 0:=rfl
theorem tm_s (g t:List Int) (k:Nat):tmF g t (k+1)=if tmF g t k+t.getD k 0<g.getD (k+1) 0 then g.getD (k+1) 0 else tmF g t k+t.getD k 0:=rfl
theorem tm_ge (g t:List Int):∀k,g.getD k 0≤tmF g t k
 |0=>by rw[tm_0];split<;>omega
 |k+1=>by rw[tm_s];split<;>omega
theorem tm_mono {g t u:List Int}:∀k,(∀j,j<k→t.getD j 0≤u.getD j 0)→tmF g t k≤tmF g u k
 |0,_=>Int.le_refl _
 |k+1,h=>by
  have h1:=tm_mono (g:=g) k (fun j hj=>h j (by omega));have h2:=h k (by omega);rw[tm_s,tm_s];split<;>split<;>omega
theorem tm_short {g t:List Int} {L:List DLeg} {k:Nat}:∀d,(∀j,k≤j→j<k+d→t.getD j 0≤(L.getD j (0,0)).2)→tmF g t (k+d)≤tmF g t k+(psF L (k+d)-psF L k)∨∃i,i<d∧tmF g t (k+d)≤g.getD (k+1+i) 0+(psF L (k+d)-psF L (k+1+i))
 |0,_=>by rw[Nat.add_zero];exact .inl (by omega)
 |d+1,h=>by
  have h2:=h (k+d) (by omega) (by omega);have e:psF L (k+d+1)=psF L (k+d)+(L.getD (k+d) (0,0)).2:=rfl;rw[←Nat.add_assoc,tm_s,e];split
  ·exact .inr ⟨d,by omega,by rw[show k+1+d=k+d+1 by omega,e];omega⟩
  ·rcases tm_short (g:=g) d (fun j h1 h2=>h j h1 (by omega)) with h1|⟨i,hi,h1⟩
   ·exact .inl (by omega)
   ·exact .inr ⟨i,by omega,by omega⟩
theorem cut_getD {l h:List Int} {k j:Nat} (hl:l.length=h.length) (hk:k≤l.length):(l.take k++h.drop k).getD j 0=if j<k then l.getD j 0 else h.getD j 0:=by
 have e:(l.take k).length=k:=by rw[List.length_take];omega
 simp only[List.getD];split
 ·rename_i c;rw[List.getElem?_append_left (by omega),List.getElem?_take_of_lt c]
 ·rename_i c;rw[List.getElem?_append_right (by omega),e,List.getElem?_drop,show k+(j-k)=j by omega]
theorem cut_len {l h:List Int} {k:Nat} (hl:l.length=h.length) (hk:k≤l.length):(l.take k++h.drop k).length=l.length:=by
 rw[List.length_append,List.length_take,List.length_drop];omega
theorem cut_took {c:DChain} (h:rightC c=true) {k:Nat} (hk:k≤c.2.1.length):tookB c.2.1 ((lowsF c.2.1).take k++(highsF c.2.1).drop k)=true:=by
 have hl:(lowsF c.2.1).length=(highsF c.2.1).length:=by rw[lows_len,highs_len]
 have hk':k≤(lowsF c.2.1).length:=by rw[lows_len];exact hk
 refine tookB_iff.2 ⟨by rw[cut_len hl hk',lows_len],fun j hj=>?_⟩;have h1:=right_leg h hj;rw[cut_getD hl hk',lows_getD,highs_getD];split<;>omega
theorem cut_run {c:DChain} {g:List Int} (h:fitsG c g=true) {k:Nat} (hk:k≤c.2.1.length):(rnF c g ((lowsF c.2.1).take k++(highsF c.2.1).drop k)).1=playF g ((lowsF c.2.1).take k++(highsF c.2.1).drop k):=by
 unfold rnF;rw[if_pos ⟨h,cut_took (fitsG_iff.1 h).1 hk⟩]
theorem keeps20_iff {c:DChain} {g:List Int}:keeps20 c g=true↔(cutF c g (lowsF c.2.1) (highsF c.2.1) 0=true∧cutF c g (lowsF c.2.1) (highsF c.2.1) c.2.1.length=true)∧∀r∈c.2.2,cutF c g (lowsF c.2.1) (highsF c.2.1) r.1.toNat=true:=by
 unfold keeps20;simp only[Bool.and_eq_true,List.all_eq_true]
theorem keep_mk {c:DChain} {g t:List Int} (h:rightC c=true) (ht:t.length=c.2.1.length) (hw:∀k,k<c.1.length→(c.1.getD k (0,0)).1≤tmF g t k∧tmF g t k≤(c.1.getD k (0,0)).2) (hr:∀r∈c.2.2,tmF g t r.2.1.toNat-tmF g t r.1.toNat≤r.2.2):keepsF c (playF g t)=true:=by
 have h1:=(rightC_iff.1 h).1;refine keepsF_iff.2 ⟨h,by rw[playF_len];omega,fun k hk=>?_,fun r hr'=>?_⟩
 ·rw[playF_getD g t (by omega)];exact hw k hk
 ·have h4:=(rightC_iff.1 h).2.2.2 r hr';rw[playF_getD g t (by omega),playF_getD g t (by omega)];exact hr r hr'
theorem mF_ge {c:DChain} {k:Nat} {rest:List Int} {r:DRide} {a:Int}:∀n,a≤mF c k rest r a n∧∀i,i<n→rest.getD i 0+(psF c.2.1 r.2.1.toNat-psF c.2.1 (k+1+i))-r.2.2≤mF c k rest r a n
 |0=>⟨Int.le_refl _,fun i hi=>by omega⟩
 |n+1=>by
  obtain ⟨h1,h2⟩:=mF_ge (c:=c) (k:=k) (rest:=rest) (r:=r) (a:=a) n;have h3:=maxI_ge (mF c k rest r a n) (rest.getD n 0+(psF c.2.1 r.2.1.toNat-psF c.2.1 (k+1+n))-r.2.2);refine ⟨Int.le_trans h1 h3.1,fun i hi=>?_⟩;rcases Nat.lt_or_ge i n with c'|c'
  ·exact Int.le_trans (h2 i c') h3.1
  ·obtain rfl:i=n:=by omega
   exact h3.2.1
theorem rF_ge {c:DChain} {k:Nat} {rest:List Int} {a:Int} {r:DRide}:a≤rF c k rest a r∧(r.1=k→∀i,i<r.2.1.toNat-k→rest.getD i 0+(psF c.2.1 r.2.1.toNat-psF c.2.1 (k+1+i))-r.2.2≤rF c k rest a r):=by
 unfold rF;split
 ·have:=mF_ge (c:=c) (k:=k) (rest:=rest) (r:=r) (a:=a) (r.2.1.toNat-k);exact ⟨this.1,fun _=>this.2⟩
 ·rename_i h;exact ⟨Int.le_refl _,fun q=>absurd q h⟩
theorem rFold_ge {c:DChain} {k:Nat} {rest:List Int}:∀(l:List DRide) (a:Int),a≤l.foldl (rF c k rest) a∧∀r∈l,r.1=k→∀i,i<r.2.1.toNat-k→rest.getD i 0+(psF c.2.1 r.2.1.toNat-psF c.2.1 (k+1+i))-r.2.2≤l.foldl (rF c k rest) a
 |[],a=>⟨Int.le_refl _,fun r hr=>absurd hr List.not_mem_nil⟩
 |x::l,a=>by
  obtain ⟨h1,h2⟩:=rFold_ge (c:=c) (k:=k) (rest:=rest) l (rF c k rest a x);have h3:=rF_ge (c:=c) (k:=k) (rest:=rest) (a:=a) (r:=x);refine ⟨Int.le_trans h3.1 h1,fun r hr e i hi=>?_⟩;rcases List.mem_cons.1 hr with rfl|hr
  ·exact Int.le_trans (h3.2 e i hi) h1
  ·exact h2 r hr e i hi
theorem gs_shift (c:DChain) (j:Nat):∀i q,(gsF c (j+i)).getD (i+q) 0=(gsF c j).getD q 0
 |0,q=>by rw[Nat.zero_add];rfl
 |i+1,q=>by
  have:=gs_shift c j i q;show (gkF c _ (gsF c (j+i))::gsF c (j+i)).getD (i+1+q) 0=_;rw[show i+1+q=(i+q)+1 by omega,List.getD_cons_succ];exact this
def gsA (c:DChain) (k:Nat):Int:=(gsF c c.1.length).getD k 0
theorem gsA_rest (c:DChain) {k:Nat} (hk:k<c.1.length) (q:Nat):(gsF c (c.1.length-(k+1))).getD q 0=gsA c (k+1+q):=by
 have:=gs_shift c (c.1.length-(k+1)) (k+1) q;rw[show c.1.length-(k+1)+(k+1)=c.1.length by omega] at this;exact this.symm
theorem gsA_eq (c:DChain) {k:Nat} (hk:k<c.1.length):gsA c k=gkF c k (gsF c (c.1.length-(k+1))):=by
 have:=gs_shift c (c.1.length-k) k 0;rw[show c.1.length-k+k=c.1.length by omega,gs_step c hk,List.getD_cons_zero] at this;exact this
theorem gsA_ge {c:DChain} {k:Nat} (hk:k<c.1.length):(c.1.getD k (0,0)).1≤gsA c k∧∀r∈c.2.2,r.1=k→∀i,i<r.2.1.toNat-k→gsA c (k+1+i)+(psF c.2.1 r.2.1.toNat-psF c.2.1 (k+1+i))-r.2.2≤gsA c k:=by
 rw[gsA_eq c hk];obtain ⟨h1,h2⟩:=rFold_ge (c:=c) (k:=k) (rest:=gsF c (c.1.length-(k+1))) c.2.2 (c.1.getD k (0,0)).1;refine ⟨h1,fun r hr e i hi=>?_⟩;rw[←gsA_rest c hk];exact h2 r hr e i hi
theorem guard_keeps {c:DChain} (h:(guardF c).2=0) {t:List Int} (ht:tookB c.2.1 t=true):keepsF c (playF (guardF c).1 t)=true:=by
 unfold guardF at h⊢;by_cases h1:rightC c=false
 ·rw[if_pos h1] at h;cases h
 by_cases h2:c.2.2.any (lateR c)=true
 ·rw[if_neg h1,if_pos h2] at h;cases h
 by_cases h3:inTime c (playF (gsF c c.1.length) (highsF c.2.1))=false
 ·rw[if_neg h1,if_neg h2,if_pos h3] at h;cases h
 rw[if_neg h1,if_neg h2,if_neg h3];show keepsF c (playF (gsF c c.1.length) t)=true;have hr:rightC c=true:=by rwa [Bool.not_eq_false] at h1
 have hn:=(rightC_iff.1 hr).1;rw[Bool.not_eq_false] at h3;have hl:=late_none h2;obtain ⟨t1,t2⟩:=tookB_iff.1 ht;refine keep_mk hr t1 (fun k hk=>⟨Int.le_trans (gsA_ge hk).1 (tm_ge _ _ k),?_⟩) fun r hr'=>?_
 ·have h4:=inTime_iff.1 h3 k (by rw[playF_len,highs_len];omega);rw[playF_getD _ _ (by rw[highs_len];omega)] at h4;refine Int.le_trans (tm_mono k fun j hj=>?_) h4;rw[highs_getD];exact (t2 j (by omega)).2
 ·have h4:=(rightC_iff.1 hr).2.2.2 r hr';have h5:=hl r hr';unfold lateR at h5;have h5:=of_decide_eq_false h5;have h6:=tm_short (g:=gsF c c.1.length) (t:=t) (L:=c.2.1) (k:=r.1.toNat) (r.2.1.toNat-r.1.toNat) (fun j h1 h2=>(t2 j (by omega)).2);rw[show r.1.toNat+(r.2.1.toNat-r.1.toNat)=r.2.1.toNat by omega] at h6;rcases h6 with h6|⟨i,hi,h6⟩
  ·omega
  ·have h7:=(gsA_ge (c:=c) (k:=r.1.toNat) (by omega)).2 r hr' (by omega) i hi;have h8:=tm_ge (gsF c c.1.length) t r.1.toNat;unfold gsA at h7;omega
theorem chain_ok {w:DWorld} {c:Int} {ss:List DStop} (h:(chainF w c ss).2=0):asksF w c ss=true∧chainF w c ss=((winsF w c ss,legsF w c ss,ridesR w ss ss.length),0):=by
 unfold chainF at h⊢;by_cases h1:asksF w c ss=false
 ·rw[if_pos h1] at h;cases h
 by_cases h2:(List.range (ss.length+1)).any (badW w c ss)=true
 ·rw[if_neg h1,if_pos h2] at h;cases h
 by_cases h3:(List.range ss.length).any (fun k=>!(legAt w c ss k).2)=true
 ·rw[if_neg h1,if_neg h2,if_pos h3] at h;cases h
 rw[if_neg h1,if_neg h2,if_neg h3];exact ⟨by rwa [Bool.not_eq_false] at h1,rfl⟩
theorem good_has {w:DWorld} {p:DPlan} (h:checkP w p=0):asksF w p.1 p.2.1=true∧chainF w p.1 p.2.1=((winsF w p.1 p.2.1,p.2.2.1,ridesR w p.2.1 p.2.1.length),0)∧rightC (winsF w p.1 p.2.1,p.2.2.1,ridesR w p.2.1 p.2.1.length)=true∧
  fitsG (winsF w p.1 p.2.1,p.2.2.1,ridesR w p.2.1 p.2.1.length) p.2.2.2=true∧keeps20 (winsF w p.1 p.2.1,p.2.2.1,ridesR w p.2.1 p.2.1.length) p.2.2.2=true:=by
 obtain ⟨_,h2,h3,h4,_⟩:=check_ok h
 obtain ⟨h5,h6⟩:=chain_ok h2
 have h7:=okC_fits h3
 have e:p.2.2.1=legsF w p.1 p.2.1:=by
  unfold okC at h3;rw[h6] at h3;rw[Bool.and_eq_true] at h3;exact of_decide_eq_true h3.1
 rw[h6] at h4 h7
 rw[e]
 exact ⟨h5,h6,h7.1,h7.2,h4⟩
theorem good_legs {w:DWorld} {p:DPlan} (h:checkP w p=0):p.2.2.1.length=p.2.1.length∧∀x∈p.2.2.1,legB x=true:=by
 obtain ⟨_,_,h3,_,_⟩:=good_has h;have h4:=rightC_iff.1 h3;refine ⟨?_,fun x hx=>decide_eq_true (h4.2.2.1 x hx)⟩;have h5:=h4.1.2.2.1;dsimp only[winsF] at h5;rw[List.length_map,List.length_range] at h5;omega
theorem good_worst {w:DWorld} {p:DPlan} (h:checkP w p=0):worstF (chainF w p.1 p.2.1).1 p.2.2.2=(playF p.2.2.2 (highsF p.2.2.1),0):=by
 obtain ⟨_,h2,_,h4,_⟩:=good_has h;rw[h2];unfold worstF;rw[if_pos h4]
theorem guard_ok {c:DChain} (h:(guardF c).2=0):rightC c=true∧(guardF c).1=gsF c c.1.length∧∀r∈c.2.2,lateR c r=false:=by
 unfold guardF at h⊢;by_cases h1:rightC c=false
 ·rw[if_pos h1] at h;cases h
 by_cases h2:c.2.2.any (lateR c)=true
 ·rw[if_neg h1,if_pos h2] at h;cases h
 by_cases h3:inTime c (playF (gsF c c.1.length) (highsF c.2.1))=false
 ·rw[if_neg h1,if_neg h2,if_pos h3] at h;cases h
 rw[if_neg h1,if_neg h2,if_neg h3];exact ⟨by rwa [Bool.not_eq_false] at h1,rfl,late_none h2⟩
theorem guard_keeps20 {c:DChain} (h:(guardF c).2=0):keeps20 c (guardF c).1=true:=by
 have hf:=guard_fits h;have hr:=(fitsG_iff.1 hf).1;have hn:=(rightC_iff.1 hr).1;have hc:∀k,k≤c.2.1.length→cutF c (guardF c).1 (lowsF c.2.1) (highsF c.2.1) k=true:=fun k hk=>by
  unfold cutF;rw[cut_run hf hk];exact guard_keeps h (cut_took hr hk)
 refine keeps20_iff.2 ⟨⟨hc 0 (Nat.zero_le _),hc _ (Nat.le_refl _)⟩,fun r hr'=>?_⟩;have h4:=(rightC_iff.1 hr).2.2.2 r hr';exact hc _ (by omega)
theorem made_ok {w:DWorld} {c:Int} {ss:List DStop} (h:(makeF w c ss).2=0):(chainF w c ss).2=0∧checkP w (makeF w c ss).1=0∧(makeF w c ss).1.1=c∧(makeF w c ss).1.2.1=ss∧(makeF w c ss).1.2.2.1=(chainF w c ss).1.2.1:=by
 rw[makeF_eq] at h⊢;by_cases h1:(begF w c ss).2≠0
 ·rw[if_pos h1] at h;exact absurd h h1
 by_cases h2:(guardF (begF w c ss).1).2≠0
 ·rw[if_neg h1,if_pos h2] at h;cases h
 by_cases h3:restsF w (begF w c ss).1 (guardF (begF w c ss).1).1=false
 ·rw[if_neg h1,if_neg h2,if_pos h3] at h;cases h
 rw[if_neg h1,if_neg h2,if_neg h3];have hb:=beg_ok (Decidable.not_not.1 h1);have hg:=Decidable.not_not.1 h2;obtain ⟨g1,g2,g3⟩:=guard_ok hg;refine ⟨by rw[←hb];exact Decidable.not_not.1 h1,?_,rfl,rfl,by rw[←hb]⟩;rw[checkP_eq];dsimp only;have ho:okC w (c,ss,(begF w c ss).1.2.1,(guardF (begF w c ss).1).1) (begF w c ss).1=true:=by
  unfold okC;dsimp only;rw[decide_eq_true rfl,g2,gsF_len,decide_eq_true rfl,g1,allIn_within.2 (gs_low g1 g3 _ (Nat.le_refl _))];rfl
 rw[if_neg h1,if_neg (by rw[ho];decide),if_neg (by rw[guard_keeps20 hg];decide),if_neg h3]
theorem offI_le (n:Nat):∀j,offI n j≤(n+1)*j
 |0=>Nat.zero_le _
 |j+1=>by
  have:=offI_le n j;unfold offI;rw[Nat.mul_succ];omega
theorem line_ok {w:DWorld} {p:DPlan} {r:Int} {a b:Nat} (h:(makeF w p.1 (stopsI p.2.1 r a b)).2=0):checkP w (makeF w p.1 (stopsI p.2.1 r a b)).1=0∧(endP w (makeF w p.1 (stopsI p.2.1 r a b)).1).2=0∧lineI w p r a b=((a:Int),(b:Int),0,(endP w (makeF w p.1 (stopsI p.2.1 r a b)).1).1):=by
 have hc:=(made_ok h).2.1;refine ⟨hc,?_,?_⟩
 ·rw[endP_eq,if_neg (Decidable.not_not.2 hc)]
 ·unfold lineI;rw[if_pos h,h]
theorem line_no {w:DWorld} {p:DPlan} {r:Int} {a b:Nat} (h:(makeF w p.1 (stopsI p.2.1 r a b)).2≠0):lineI w p r a b=((a:Int),(b:Int),(makeF w p.1 (stopsI p.2.1 r a b)).2,0):=by
 unfold lineI;rw[if_neg h]
theorem lines_is (w:DWorld) (p:DPlan) (r:Int) {k:Nat} (hk:k<(linesI w p r).length):∃a b,a≤b∧b≤p.2.1.length∧(linesI w p r).getD k dPlace=lineI w p r a b:=by
 rw[lines_len] at hk;have:∀j,j≤p.2.1.length+1→k<offI p.2.1.length j→∃a i,a<j∧i<p.2.1.length+1-a∧k=offI p.2.1.length a+i:=by
  intro j;induction j with
  |zero=>intro _ h;unfold offI at h;omega
  |succ j ih=>
   intro hj h;unfold offI at h;rcases Nat.lt_or_ge k (offI p.2.1.length j) with c|c
   ·obtain ⟨a,i,h1,h2,h3⟩:=ih (by omega) c;exact ⟨a,i,by omega,h2,h3⟩
   ·exact ⟨j,k-offI p.2.1.length j,by omega,by omega,by omega⟩
 obtain ⟨a,i,h1,h2,h3⟩:=this _ (Nat.le_refl _) hk;refine ⟨a,a+i,by omega,by omega,?_⟩;rw[h3];exact (lines_at w p r (by omega) h2).2.1
theorem best_is {w:DWorld} {p:DPlan} {r:Int} (h:0≤atN (linesI w p r) (linesI w p r).length):∃a b:Nat,a≤b∧b≤p.2.1.length∧(linesI w p r).getD (atN (linesI w p r) (linesI w p r).length).toNat dPlace=lineI w p r a b∧(makeF w p.1 (stopsI p.2.1 r a b)).2=0:=by
 rcases atN_best (linesI w p r) (linesI w p r).length with ⟨e,_⟩|⟨k,e,hk,h0,_⟩
 ·omega
 rw[e,Int.toNat_natCast];obtain ⟨a,b,h1,h2,h3⟩:=lines_is w p r hk;rw[h3] at h0;exact ⟨a,b,h1,h2,h3,h0⟩
theorem stopsI_parts {ss:List DStop} {r:Int} {a b:Nat} (hab:a≤b) (hb:b≤ss.length):stopsI ss r a b=ss.take a++([(r,true)]++((ss.take b).drop a++([(r,false)]++ss.drop b))):=by
 have h:=outI_3 (r:=r) hab hb (ss.length-b) (by omega);rw[show b+(ss.length-b+1)=ss.length+1 by omega,List.take_of_length_le (i:=ss.length+1) (by omega),outI_all hab hb] at h;exact h
theorem stopsI_length {ss:List DStop} {r:Int} {a b:Nat} (hab:a≤b) (hb:b≤ss.length):(stopsI ss r a b).length=ss.length+2:=by
 rw[stopsI_parts hab hb];simp only[List.length_append,List.length_take,List.length_drop,List.length_cons,List.length_nil];omega
abbrev DMove:=Int×Int×Int×Int×Int
@[reducible] def dPlan:DPlan:=(0,[],[],[])
@[reducible] def dMove:DMove:=(0,0,0,0,0)
def planAt (ps:List DPlan) (i:Int):DPlan:=ps.getD i.toNat dPlan
def outS (ss:List DStop) (r:Int):List DStop:=ss.filter fun s=>decide (s.1≠r)
def apartB (p q:DPlan):Bool:=p.2.1.all fun s=>q.2.1.all fun t=>decide (s.1≠t.1)
def RightPs (w:DWorld) (ps:List DPlan):Prop:=rightP w=true∧ps.length=w.2.2.1.length∧∀j,j<ps.length→((ps.getD j dPlan).1=(j:Int)∧checkP w (ps.getD j dPlan)=0)∧∀i,i<j→apartB (ps.getD i dPlan) (ps.getD j dPlan)=true
instance (w:DWorld) (ps:List DPlan):Decidable (RightPs w ps):=by unfold RightPs;infer_instance
def toS (ps:List DPlan) (m:DMove):List DStop:=outS (planAt ps m.2.2.1).2.1 m.1
def badM (ps:List DPlan) (m:DMove):Prop:=m.2.1<0∨(ps.length:Int)≤m.2.1∨m.2.2.1<0∨(ps.length:Int)≤m.2.2.1∨¬(m.1,true)∈(planAt ps m.2.1).2.1
instance (ps:List DPlan) (m:DMove):Decidable (badM ps m):=by unfold badM;infer_instance
def offM (ps:List DPlan) (m:DMove):Prop:=m.2.2.2.1<0∨m.2.2.2.2<m.2.2.2.1∨((toS ps m).length:Int)<m.2.2.2.2
instance (ps:List DPlan) (m:DMove):Decidable (offM ps m):=by unfold offM;infer_instance
def endF (w:DWorld) (p:DPlan):Int:=(endP w p).1
theorem stopsI_in {ss:List DStop} {r:Int} {a b:Nat} (hab:a≤b) (hb:b≤ss.length) {s:DStop}:s∈stopsI ss r a b↔s.1=r∧(s=(r,true)∨s=(r,false))∨s∈ss:=by
 have h1:s∈ss↔s∈ss.take a∨s∈(ss.take b).drop a∨s∈ss.drop b:=by
  have e:ss.take a++((ss.take b).drop a++ss.drop b)=ss:=by
   rw[←List.append_assoc];have:ss.take a++(ss.take b).drop a=ss.take b:=by
    have:=List.take_append_drop a (ss.take b);rwa [List.take_take,Nat.min_eq_left hab] at this
   rw[this,List.take_append_drop]
  rw[←List.mem_append,←List.mem_append,e]
 rw[stopsI_parts hab hb,h1];simp only[List.mem_append,List.mem_singleton];constructor
 ·rintro (h|h|h|h|h)
  ·exact .inr (.inl h)
  ·exact .inl ⟨by rw[h],.inl h⟩
  ·exact .inr (.inr (.inl h))
  ·exact .inl ⟨by rw[h],.inr h⟩
  ·exact .inr (.inr (.inr h))
 ·rintro (⟨_,h|h⟩|h|h|h)
  ·exact .inr (.inl h)
  ·exact .inr (.inr (.inr (.inl h)))
  ·exact .inl h
  ·exact .inr (.inr (.inl h))
  ·exact .inr (.inr (.inr (.inr h)))
theorem apart_ne {p q:DPlan} (h:apartB p q=true) {s t:DStop} (hs:s∈p.2.1) (ht:t∈q.2.1):s.1≠t.1:=by
 unfold apartB at h;rw[List.all_eq_true] at h;have:=h s hs;rw[List.all_eq_true] at this;exact of_decide_eq_true (this t ht)
theorem RightPs.one {w:DWorld} {ps:List DPlan} (h:RightPs w ps) {i j:Nat} (hi:i<ps.length) (hj:j<ps.length) {s t:DStop} (hs:s∈(ps.getD i dPlan).2.1) (ht:t∈(ps.getD j dPlan).2.1) (e:s.1=t.1):i=j:=by
 rcases Nat.lt_trichotomy i j with c|c|c
 ·exact absurd e (apart_ne ((h.2.2 j hj).2 i c) hs ht)
 ·exact c
 ·exact absurd e.symm (apart_ne ((h.2.2 i hi).2 j c) ht hs)
theorem end_rng (w:DWorld) (p:DPlan):0≤endF w p∧endF w p≤134217728:=by
 unfold endF;rw[endP_eq];by_cases h:checkP w p≠0
 ·rw[if_pos h];exact ⟨Int.le_refl _,by show (0:Int)≤134217728;decide⟩
 rw[if_neg h];replace h:=Decidable.not_not.1 h;rw[good_worst h];obtain ⟨h1,h2,h3,h4,_⟩:=good_has h;have hl:=(good_legs h).1;have hs:=(asks_iff.1 h1).2.2.1.1;have hg:=(fitsG_iff.1 h4).2.2;have hw:=highs_within h3;have b:=tmF_bd hg hw p.2.2.1.length;unfold lastI;rw[playF_len,Nat.add_sub_cancel,highs_len,playF_getD _ _ (by rw[highs_len];exact Nat.le_refl _)];dsimp only at b⊢;omega
end T
end Go.Proofs.YtpocfbfmjippnaaGreat
end
