/- Parts of the proof of the law; no condition. -/
import Derived.Test.YtpocfbfmjippnaaGreatH46
set_option linter.all false
section
namespace Go.Proofs.YtpocfbfmjippnaaGreat
namespace T
theorem next_none {h:Int}:∀{t:List Int},(∀x∈t,x<0)→nextF h t=none
 |[],_=>rfl
 |a::r,hn=>by
  unfold nextF;rw[next_none (t:=r) fun x hx=>hn x (.tail _ hx)];have:=hn a (.head _);exact if_neg (by omega)
theorem next_some {h x:Int} {r:List Int} (hr:∀y∈r,y<0) (hx:0≤x):∀l:List Int,nextF h (l++x::r)=some (l++(if h≤x+1 then-1 else x+1)::List.replicate r.length (fstF h))
 |[]=>by
  rw[List.nil_append];unfold nextF;rw[next_none hr];exact if_pos hx
 |a::l=>by
  rw[List.cons_append];unfold nextF;rw[next_some hr hx l];rfl
def rowN (h:Int) (t:List Int) (k:Nat):List Int:=t.take (t.length-k)++List.replicate k (fstF h)
def setN (h:Int) (t:List Int) (k:Nat) (v:Int):List Int:=t.take (t.length-(k+1))++v::List.replicate k (fstF h)
theorem rowN_zero (h:Int) (t:List Int):rowN h t 0=t:=by
 unfold rowN;rw[Nat.sub_zero,List.take_length];exact List.append_nil t
theorem setN_len {h:Int} {t:List Int} {k:Nat} (hk:k<t.length) (v:Int):(setN h t k v).length=t.length:=by
 unfold setN;rw[List.length_append,List.length_cons,List.length_take,List.length_replicate];omega
theorem rowN_is {h:Int} {t:List Int} {k p:Nat} (hk:t.length=p+1+k):rowN h t k=setN h t k (t.getD p 0):=by
 have hp:p<t.length:=by omega
 unfold rowN setN;rw[show t.length-k=p+1 by omega,show t.length-(k+1)=p by omega,take_nx (d:=0) hp,List.append_assoc];rfl
theorem setN_get {h:Int} {t:List Int} {k p:Nat} (hk:t.length=p+1+k) (v:Int):(setN h t k v).getD p 0=v:=by
 unfold setN;rw[show t.length-(k+1)=p by omega];simp only[List.getD];rw[List.getElem?_append_right (by rw[List.length_take];omega),List.length_take,show p-min p t.length=0 by omega];rfl
theorem setN_set {h:Int} {t:List Int} {k p:Nat} (hk:t.length=p+1+k) (v w:Int):(setN h t k v).set p w=setN h t k w:=by
 unfold setN;rw[show t.length-(k+1)=p by omega,List.set_append_right _ _ (by rw[List.length_take];omega),List.length_take,show p-min p t.length=0 by omega];rfl
theorem next_row {h:Int} {t:List Int} {k p:Nat} (hk:t.length=p+1+k) (hn:∀j,p<j→j<t.length→t.getD j 0<0) (h0:0≤t.getD p 0):nextF h t=some (setN h t k (if h≤t.getD p 0+1 then-1 else t.getD p 0+1)):=by
 have hp:p<t.length:=by omega
 have e:t=t.take p++t.getD p 0::t.drop (p+1):=by
  have:=List.take_append_drop p t;rw[List.drop_eq_getElem_cons hp] at this;rw[show t.getD p 0=t[p] by simp[List.getD,hp]];exact this.symm
 have hl:(t.drop (p+1)).length=k:=by rw[List.length_drop];omega
 have hr:∀y∈t.drop (p+1),y<0:=fun y hy=>by
  obtain ⟨i,hi,rfl⟩:=List.getElem_of_mem hy;have:=hn (p+1+i) (by omega) (by omega);rw[List.getElem_drop];rw[show t.getD (p+1+i) 0=t[p+1+i]'(by omega) by simp[List.getD,show p+1+i<t.length by omega]] at this;exact this
 have:=next_some (h:=h) hr h0 (t.take p);rw[←e,hl] at this;rw[this];unfold setN;rw[show t.length-(k+1)=p by omega]
theorem next_end {h:Int} {t:List Int} (hn:∀j,j<t.length→t.getD j 0<0):nextF h t=none:=next_none fun x hx=>by
 obtain ⟨i,hi,rfl⟩:=List.getElem_of_mem hx;have:=hn i hi;rw[show t.getD i 0=t[i] by simp[List.getD,hi]] at this;exact this
def stS (w:DWorld) (hs:List DPlan) (o:List Int) (i:Nat):DRep:=((chF hs.length o.length).take i).foldl (stepR w hs o) (none,[])
theorem stS_zero (w:DWorld) (hs:List DPlan) (o:List Int):stS w hs o 0=(none,[]):=rfl
theorem stS_next {w:DWorld} {hs:List DPlan} {o:List Int} {i:Nat} (h:i<(chF hs.length o.length).length):stS w hs o (i+1)=stepR w hs o (stS w hs o i) ((chF hs.length o.length).getD i []):=by
 unfold stS;rw[take_nx (d:=[]) h,List.foldl_append];rfl
theorem stS_all (w:DWorld) (hs:List DPlan) (o:List Int):stS w hs o (chF hs.length o.length).length=scanR w hs o:=by
 unfold stS scanR;rw[List.take_length]
theorem ch_at {h n i:Nat} (hi:i<(chF h n).length):((chF h n).getD i []).length=n∧∀t∈(chF h n).getD i [],t<(h:Int):=by
 have hm:(chF h n).getD i []∈chF h n:=by simp[List.getD,hi]
 obtain ⟨h1,h2⟩:=mem_ch.1 hm;refine ⟨h1,fun t ht=>?_⟩;rcases mem_dig.1 (h2 t ht) with e|⟨k,hk,e⟩<;>omega
structure StOk (n i:Nat) (a:DRep):Prop where
 to:∀x,a.1=some x→x.1.length=n
 len:a.2.length≤i
 all:∀c∈a.2,c.1.length=n
theorem stS_ok (w:DWorld) (hs:List DPlan) (o:List Int):∀i,i≤(chF hs.length o.length).length→StOk o.length i (stS w hs o i)
 |0,_=>⟨fun x h=>(by cases h),Nat.le_refl _,fun c h=>absurd h (by simp[stS_zero])⟩
 |i+1,h=>by
  obtain ⟨i1,i2,i3⟩:=stS_ok w hs o i (by omega);have hc:=(ch_at (h:=hs.length) (n:=o.length) (i:=i) (by omega)).1;rw[stS_next (by omega)];unfold stepR;split
  ·refine ⟨i1,by rw[List.length_append,List.length_singleton];omega,fun c hm=>?_⟩;rcases List.mem_append.1 hm with hm|hm
   ·exact i3 c hm
   ·rw[List.mem_singleton.1 hm];exact hc
  ·refine ⟨fun x hx=>?_,Nat.le_succ_of_le i2,i3⟩;dsimp only at hx;unfold leafR at hx;cases hb:(stS w hs o i).1 with
   |none=>rw[hb] at hx;cases hx;exact hc
   |some y=>
    rw[hb] at hx;dsimp only at hx;split at hx
    ·cases hx;exact hc
    ·rw[Option.some.inj hx] at hb;exact i1 _ hb
theorem leafR_y {to:List Int} {ps:List DPlan} {n:Int} {x:List Int×List DPlan×Int} (h:lessR to x.1<0∨lessR to x.1=0∧n<x.2.2):leafR to ps n (some x)=some (to,ps,n):=by
 show (if _ then _ else _)=_;exact if_pos h
theorem leafR_n {to:List Int} {ps:List DPlan} {n:Int} {x:List Int×List DPlan×Int} (h:¬(lessR to x.1<0∨lessR to x.1=0∧n<x.2.2)):leafR to ps n (some x)=some x:=by
 show (if _ then _ else _)=_;exact if_neg h
def keepB (b:List Int) (c:DCase):Bool:=decide (lessR c.1 b<0)
def keepR (b:List Int) (L:List DCase):List DCase:=L.filter (keepB b)
theorem keepR_eq (b:List Int) (L:List DCase):(L.filter fun c=>decide (lessR c.1 b<0))=keepR b L:=rfl
theorem keepR_at {b:List Int} {L:List DCase} {j:Nat} (h:j<L.length):keepR b (L.take (j+1))=if lessR (L.getD j dCase).1 b<0 then keepR b (L.take j)++[L.getD j dCase] else keepR b (L.take j):=by
 unfold keepR;rw[take_nx (d:=dCase) h,List.filter_append];generalize L.getD j dCase=x;by_cases c:lessR x.1 b<0
 ·have e:keepB b x=true:=by unfold keepB;exact decide_eq_true c
  rw[if_pos c,fil1 e]
 ·have e:keepB b x=false:=by unfold keepB;exact decide_eq_false c
  rw[if_neg c,fil0 e,List.append_nil]
theorem keepR_len (b:List Int) (L:List DCase):(keepR b L).length≤L.length:=List.length_filter_le _ _
theorem mem_at {α:Type} (d:α):∀{l:List α} {x:α},x∈l→∃i,i<l.length∧l.getD i d=x
 |a::r,x,h=>by
  rcases List.mem_cons.1 h with rfl|h
  ·exact ⟨0,by rw[List.length_cons];omega,rfl⟩
  ·obtain ⟨i,hi,e⟩:=mem_at d h;exact ⟨i+1,by rw[List.length_cons];omega,by rw[List.getD_cons_succ];exact e⟩
structure Rep8 (w:DWorld) (ps:List DPlan) (b:Int) (o:List Int) (x:List Int×List DPlan×Int) (F:List DCase):Prop where
 scan:scanR w (helpF ps b) o=(some x,F)
 is:bestR w ps b o=(x.2.1,lostF o x.1,keepR x.1 F,0)
 right:RightR w ps b o
 few:(helpF ps b).length≤3
 lens:x.1.length=o.length∧x.2.1.length=(helpF ps b).length
 fine:∀p∈x.2.1,FineR w (4+2*o.length) p
 cases:F.length≤((helpF ps b).length+1)^o.length
theorem best_cases {w:DWorld} {ps:List DPlan} {b:Int} {o:List Int} (hp:∀p∈ps,p.2.1.length≤4):(bestR w ps b o=([],[],[],1)∨bestR w ps b o=([],[],[],6))∨o.length≤4∧∃x F,Rep8 w ps b o x F:=by
 cases hr:rightR38 w ps b o with
 |false=>exact .inl (.inl (best_bad hr))
 |true=>
  by_cases hf:4<o.length∨3<(helpF ps b).length
  ·exact .inl (.inr (best_full hr hf))
  ·obtain ⟨x,F,hS,hF⟩:=best_ok hr hf;have h:=scan_fine hS (help_fine hr hp);exact .inr ⟨by omega,x,F,hS,hF,rightR_iff.1 hr,by omega,h.1,h.2.1,h.2.2.2⟩
theorem Rep8.proof_len {w:DWorld} {ps:List DPlan} {b:Int} {o:List Int} {x:List Int×List DPlan×Int} {F:List DCase} (h:Rep8 w ps b o x F) (ho:o.length≤2):(keepR x.1 F).length≤16:=by
 have h1:=keepR_len x.1 F;have h2:=h.cases;have h3:=h.few;have:((helpF ps b).length+1)^o.length≤4^2:=Nat.le_trans (Nat.pow_le_pow_left (show (helpF ps b).length+1≤4 by omega) _) (Nat.pow_le_pow_right (by decide) ho);omega
theorem Rep8.dist {w:DWorld} {ps:List DPlan} {b:Int} {o:List Int} {x:List Int×List DPlan×Int} {F:List DCase} (h:Rep8 w ps b o x F):∀j,j<o.length→o.getD j 0∉o.take j:=fun j hj=>(h.right.2.2.2.2 j hj).2
def ownB (o L:List Int) (n:Nat):List Int:=(List.range n).map fun i=>if o.getD i 0∈L then-1 else 0
theorem ownB_len (o L:List Int) (n:Nat):(ownB o L n).length=n:=by unfold ownB;rw[List.length_map,List.length_range]
theorem Rep8.own {w:DWorld} {ps:List DPlan} {b:Int} {o:List Int} {x:List Int×List DPlan×Int} {F:List DCase} (h:Rep8 w ps b o x F) (c:List Int):lessR c (ownB o (lostF o x.1) o.length)=lessR c x.1:=by
 refine less_pat (by rw[ownB_len];exact h.lens.1.symm) fun i hi=>?_;rw[ownB_len] at hi;have e:(ownB o (lostF o x.1) o.length).getD i 0=if o.getD i 0∈lostF o x.1 then-1 else 0:=by
  simp[ownB,List.getD,hi]
 rw[e,←mem_lostF h.dist hi (b:=x.1)];by_cases hm:o.getD i 0∈lostF o x.1
 ·rw[if_pos hm];exact ⟨fun _=>hm,fun _=>by decide⟩
 ·rw[if_neg hm];exact ⟨fun z=>absurd z (by decide),fun z=>absurd z hm⟩
def badB (w:DWorld) (hs:List DPlan) (o b to:List Int):Bool:=decide (0≤(playR w hs o to 0).2)&&decide (lessR to b<0)
theorem Rep8.proof {w:DWorld} {ps:List DPlan} {b:Int} {o:List Int} {x:List Int×List DPlan×Int} {F:List DCase} (h:Rep8 w ps b o x F):keepR x.1 F=((chF (helpF ps b).length o.length).filter (badB w (helpF ps b) o x.1)).map fun to=>(to,(playR w (helpF ps b) o to 0).2):=by
 have hf:=(scan_is w (helpF ps b) o).fails;rw[h.scan] at hf;unfold keepR;rw[show F=_ from hf,List.filter_map,List.filter_filter];congr 1;refine List.filter_congr fun to _=>?_;unfold badB;show (decide (lessR to x.1<0)&&decide _)=_;rw[Bool.and_comm]
theorem Rep8.best {w:DWorld} {ps:List DPlan} {b:Int} {o:List Int} {x:List Int×List DPlan×Int} {F:List DCase} (h:Rep8 w ps b o x F) {to:List Int} (hm:to∈chF (helpF ps b).length o.length) (hp:(playR w (helpF ps b) o to 0).2<0):¬lessR to x.1<0∧¬(lessR to x.1=0∧endsR w (playR w (helpF ps b) o to 0).1<endsR w x.2.1):=by
 have hs:=(scan_is w (helpF ps b) o).some x (by rw[h.scan]);have hk:=less_key (a:=to) (b:=x.1) (by rw[(mem_ch.1 hm).1,h.lens.1]);have:=hs.2.2.2.2 to hm hp;rw[hs.2.2.2.1] at this;refine ⟨fun z=>?_,fun z=>?_⟩
 ·have:=hk.1.1 z;omega
 ·have:=hk.2.1 z.1;omega
theorem Rep8.left {w:DWorld} {ps:List DPlan} {b:Int} {o:List Int} {x:List Int×List DPlan×Int} {F:List DCase} (h:Rep8 w ps b o x F):LeftR w (helpF ps b) x.2.1 o x.1∧(∀t∈x.1,t<((helpF ps b).length:Int))∧lenS x.2.1=lenS (helpF ps b)+2*((o.length:Int)-lostN x.1):=by
 have hs:=(scan_is w (helpF ps b) o).some x (by rw[h.scan]);obtain ⟨m1,m2⟩:=mem_ch.1 hs.1;have ht:∀t∈x.1,t<((helpF ps b).length:Int):=fun t ht=>by
  rcases mem_dig.1 (m2 t ht) with e|⟨k,hk,e⟩<;>omega
 have hg:=help_fine (w:=w) (ps:=ps) (b:=b) (o:=o) (c:=(ps.map fun p=>p.2.1.length).foldr max 0) (rightR_yes h.right) fun p hp=>by
  clear hs ht m1 m2 h;induction ps with
  |nil=>cases hp
  |cons a r ih=>
   rw[List.map_cons,List.foldr_cons];rcases List.mem_cons.1 hp with rfl|hp
   ·exact Nat.le_max_left _ _
   ·exact Nat.le_trans (ih hp) (Nat.le_max_right _ _)
 have hn:∀q∈o,∀i,i<(helpF ps b).length→∀s∈((helpF ps b).getD i dPln).2.1,s.1≠q:=fun q hq i hi s hs e=>by
  have hm:(helpF ps b).getD i dPln∈helpF ps b:=by simp[List.getD,hi]
  obtain ⟨p1,p2⟩:=mem_helpF.1 hm;obtain ⟨j,hj,e2⟩:=mem_at dPln p1;have:=(h.right.2.2.2.1 j hj).2;rw[e2] at this;exact this p2 s hs (by rw[e];exact hq)
 have h0:LeftR w (helpF ps b) (helpF ps b) [] []:=⟨rfl,fun i _=>rfl,fun i hi=>(hg _ (by simp[List.getD,hi])).1,fun i _=>by
  rw[List.filter_eq_self];intro s _;exact decide_eq_true (by simp),fun i _ s _ hm=>absurd hm (by simp),fun k hk=>absurd hk (by simp)⟩
 have hl:=play_left (w:=w) (hs:=helpF ps b) o x.1 [] [] (helpF ps b) 0 (Int.le_refl _) rfl m1 ht (fun k hk=>⟨by simp,h.dist k hk⟩) hn h0 hs.2.1;have hL:=play_lenS w o x.1 (helpF ps b) 0 (Int.le_refl _) m1 ht hs.2.1;rw[List.nil_append,List.nil_append,←hs.2.2.1] at hl;rw[←hs.2.2.1] at hL;exact ⟨hl,ht,hL⟩
end T
end Go.Proofs.YtpocfbfmjippnaaGreat
end
