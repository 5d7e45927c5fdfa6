/- Parts of the proof of the law; no condition. -/
import Derived.Test.YtpocfbfmjippnaaGreatG41
set_option linter.all false
section
namespace Go.Proofs.YtpocfbfmjippnaaGreat
namespace T
theorem mem_at {α:Type} (d:α):∀{l:List α} {x:α},x∈l→∃i,i<l.length∧l.getD i d=x
 |a::r,x,h=>by
  rcases List.mem_cons.1 h with rfl|h
  ·exact ⟨0,by rw[List.length_cons];omega,rfl⟩
  ·obtain ⟨i,hi,e⟩:=mem_at d h;exact ⟨i+1,by rw[List.length_cons];omega,by rw[List.getD_cons_succ];exact e⟩
structure Rep8 (w:DWorld) (ps:List DPlan) (b:Int) (o:List Int) (x:List Int×List DPlan×Int) (F:List DCase):Prop where
 scan:scanR w (helpF ps b) o=(some x,F)
 is:bestR w ps b o=(x.2.1,lostF o x.1,keepR x.1 F,0)
 right:RightR w ps b o
 few:(helpF ps b).length≤3
 lens:x.1.length=o.length∧x.2.1.length=(helpF ps b).length
 fine:∀p∈x.2.1,FineR w (4+2*o.length) p
 cases:F.length≤((helpF ps b).length+1)^o.length
theorem best_cases {w:DWorld} {ps:List DPlan} {b:Int} {o:List Int} (hp:∀p∈ps,p.2.1.length≤4):(bestR w ps b o=([],[],[],1)∨bestR w ps b o=([],[],[],6))∨o.length≤4∧∃x F,Rep8 w ps b o x F:=by
 cases hr:rightR38 w ps b o with
 |false=>exact .inl (.inl (best_bad hr))
 |true=>
  by_cases hf:4<o.length∨3<(helpF ps b).length
  ·exact .inl (.inr (best_full hr hf))
  ·obtain ⟨x,F,hS,hF⟩:=best_ok hr hf;have h:=scan_fine hS (help_fine hr hp);exact .inr ⟨by omega,x,F,hS,hF,rightR_iff.1 hr,by omega,h.1,h.2.1,h.2.2.2⟩
theorem lenS_bnd {c:Nat}:∀{l:List DPlan},(∀p∈l,p.2.1.length≤c)→0≤lenS l∧lenS l≤(c:Int)*l.length
 |[],_=>⟨Int.le_refl _,by rw[List.length_nil,Int.natCast_zero,Int.mul_zero];exact Int.le_refl _⟩
 |a::r,h=>by
  have ih:=lenS_bnd (l:=r) fun p hp=>h p (.tail _ hp);have h1:=h a (.head _);have e:lenS (a::r)=(a.2.1.length:Int)+lenS r:=rfl;rw[e,List.length_cons,Int.natCast_add,Int.mul_add,Int.natCast_one,Int.mul_one];omega
theorem cntQ_le (q:Int) (l:List DStop):cntQ q l≤l.length:=List.length_filter_le _ _
theorem pkQ_le (q:Int):∀l:List DPlan,(pkQ q l:Int)≤lenS l
 |[]=>Int.le_refl _
 |a::r=>by
  have ih:=pkQ_le q r;have h1:=cntQ_le q a.2.1;have e:lenS (a::r)=(a.2.1.length:Int)+lenS r:=rfl;have e2:pkQ q (a::r)=cntQ q a.2.1+pkQ q r:=rfl;rw[e,e2];omega
theorem Rep8.dist {w:DWorld} {ps:List DPlan} {b:Int} {o:List Int} {x:List Int×List DPlan×Int} {F:List DCase} (h:Rep8 w ps b o x F):∀j,j<o.length→o.getD j 0∉o.take j:=fun j hj=>(h.right.2.2.2.2 j hj).2
def ownB (o L:List Int) (n:Nat):List Int:=(List.range n).map fun i=>if o.getD i 0∈L then-1 else 0
theorem ownB_at (o L:List Int) (n:Nat):ownB o L (n+1)=ownB o L n++[if o.getD n 0∈L then-1 else 0]:=by
 unfold ownB;rw[List.range_succ,List.map_append];rfl
theorem ownB_len (o L:List Int) (n:Nat):(ownB o L n).length=n:=by unfold ownB;rw[List.length_map,List.length_range]
theorem Rep8.own {w:DWorld} {ps:List DPlan} {b:Int} {o:List Int} {x:List Int×List DPlan×Int} {F:List DCase} (h:Rep8 w ps b o x F) (c:List Int):lessR c (ownB o (lostF o x.1) o.length)=lessR c x.1:=by
 refine less_pat (by rw[ownB_len];exact h.lens.1.symm) fun i hi=>?_;rw[ownB_len] at hi;have e:(ownB o (lostF o x.1) o.length).getD i 0=if o.getD i 0∈lostF o x.1 then-1 else 0:=by
  simp[ownB,List.getD,hi]
 rw[e,←mem_lostF h.dist hi (b:=x.1)];by_cases hm:o.getD i 0∈lostF o x.1
 ·rw[if_pos hm];exact ⟨fun _=>hm,fun _=>by decide⟩
 ·rw[if_neg hm];exact ⟨fun z=>absurd z (by decide),fun z=>absurd z hm⟩
def badB (w:DWorld) (hs:List DPlan) (o b to:List Int):Bool:=decide (0≤(playR w hs o to 0).2)&&decide (lessR to b<0)
theorem Rep8.proof {w:DWorld} {ps:List DPlan} {b:Int} {o:List Int} {x:List Int×List DPlan×Int} {F:List DCase} (h:Rep8 w ps b o x F):keepR x.1 F=((chF (helpF ps b).length o.length).filter (badB w (helpF ps b) o x.1)).map fun to=>(to,(playR w (helpF ps b) o to 0).2):=by
 have hf:=(scan_is w (helpF ps b) o).fails;rw[h.scan] at hf;unfold keepR;rw[show F=_ from hf,List.filter_map,List.filter_filter];congr 1;refine List.filter_congr fun to _=>?_;unfold badB;show (decide (lessR to x.1<0)&&decide _)=_;rw[Bool.and_comm]
theorem Rep8.best {w:DWorld} {ps:List DPlan} {b:Int} {o:List Int} {x:List Int×List DPlan×Int} {F:List DCase} (h:Rep8 w ps b o x F) {to:List Int} (hm:to∈chF (helpF ps b).length o.length) (hp:(playR w (helpF ps b) o to 0).2<0):¬lessR to x.1<0∧¬(lessR to x.1=0∧endsR w (playR w (helpF ps b) o to 0).1<endsR w x.2.1):=by
 have hs:=(scan_is w (helpF ps b) o).some x (by rw[h.scan]);have hk:=less_key (a:=to) (b:=x.1) (by rw[(mem_ch.1 hm).1,h.lens.1]);have:=hs.2.2.2.2 to hm hp;rw[hs.2.2.2.1] at this;refine ⟨fun z=>?_,fun z=>?_⟩
 ·have:=hk.1.1 z;omega
 ·have:=hk.2.1 z.1;omega
theorem Rep8.left {w:DWorld} {ps:List DPlan} {b:Int} {o:List Int} {x:List Int×List DPlan×Int} {F:List DCase} (h:Rep8 w ps b o x F):LeftR w (helpF ps b) x.2.1 o x.1∧(∀t∈x.1,t<((helpF ps b).length:Int))∧lenS x.2.1=lenS (helpF ps b)+2*((o.length:Int)-lostN x.1):=by
 have hs:=(scan_is w (helpF ps b) o).some x (by rw[h.scan]);obtain ⟨m1,m2⟩:=mem_ch.1 hs.1;have ht:∀t∈x.1,t<((helpF ps b).length:Int):=fun t ht=>by
  rcases mem_dig.1 (m2 t ht) with e|⟨k,hk,e⟩<;>omega
 have hg:=help_fine (w:=w) (ps:=ps) (b:=b) (o:=o) (c:=(ps.map fun p=>p.2.1.length).foldr max 0) (rightR_yes h.right) fun p hp=>by
  clear hs ht m1 m2 h;induction ps with
  |nil=>cases hp
  |cons a r ih=>
   rw[List.map_cons,List.foldr_cons];rcases List.mem_cons.1 hp with rfl|hp
   ·exact Nat.le_max_left _ _
   ·exact Nat.le_trans (ih hp) (Nat.le_max_right _ _)
 have hn:∀q∈o,∀i,i<(helpF ps b).length→∀s∈((helpF ps b).getD i dPln).2.1,s.1≠q:=fun q hq i hi s hs e=>by
  have hm:(helpF ps b).getD i dPln∈helpF ps b:=by simp[List.getD,hi]
  obtain ⟨p1,p2⟩:=mem_helpF.1 hm;obtain ⟨j,hj,e2⟩:=mem_at dPln p1;have:=(h.right.2.2.2.1 j hj).2;rw[e2] at this;exact this p2 s hs (by rw[e];exact hq)
 have h0:LeftR w (helpF ps b) (helpF ps b) [] []:=⟨rfl,fun i _=>rfl,fun i hi=>(hg _ (by simp[List.getD,hi])).1,fun i _=>by
  rw[List.filter_eq_self];intro s _;exact decide_eq_true (by simp),fun i _ s _ hm=>absurd hm (by simp),fun k hk=>absurd hk (by simp)⟩
 have hl:=play_left (w:=w) (hs:=helpF ps b) o x.1 [] [] (helpF ps b) 0 (Int.le_refl _) rfl m1 ht (fun k hk=>⟨by simp,h.dist k hk⟩) hn h0 hs.2.1;have hL:=play_lenS w o x.1 (helpF ps b) 0 (Int.le_refl _) m1 ht hs.2.1;rw[List.nil_append,List.nil_append,←hs.2.2.1] at hl;rw[←hs.2.2.1] at hL;exact ⟨hl,ht,hL⟩
end T
end Go.Proofs.YtpocfbfmjippnaaGreat
end
