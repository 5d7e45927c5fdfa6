/- Parts of the proof of the law; no condition. -/
import Derived.Test.YtpocfbfmjippnaaGreatG40
set_option linter.all false
section
namespace Go.Proofs.YtpocfbfmjippnaaGreat
open Go.RowKit Go.IntWalk
namespace T
def entEqSt:Ent:=⟨42,.cons Z15 (.cons Z15 .nil),.bool,false,none,fun _=>True,fun x=>decide ((x.1:List DStop)=x.2.1)⟩
def csEqSt:List Ent:=[] theorem hcsEqSt (f:FuncId):findEnt csEqSt f=findEnt [] f:=rfl
theorem conEqSt:Con Tryz.prog entEqSt:=by
 refine con_is (C:=csEqSt) x42 (by kernel_rfl) (by simp[csEqSt]) fun x hx hf=>?_;obtain ⟨(a:List DStop),(b:List DStop),_⟩:=x;have hl:a.length≤9223372036854775807:=hf.1.1;by_cases hab:a.length=b.length
 ·have habi:(a.length:Int)=(b.length:Int):=by omega
  dsimp only[entEqSt,x42];simp only[↓hcsEqSt,habi,go_sem];try simp only[habi,td,reduceCtorEq]
  refine XW_for 1000 x42_0d [] Nat (fun j=>[(13,.val Z1 (j:Int))]) (fun _=>[]) (fun j=>j≤a.length∧∀i,i<j→a.getD i dStop=b.getD i dStop) (fun j=>a.length-j) 0 ?_ ?_ ?_
  ·dsimp only[x42_0d];simp only[go_sem];try trivial
  ·exact ⟨Nat.zero_le _,fun i hi=>by omega⟩
  rintro j ⟨hj,hn⟩;by_cases hja:j<a.length
  ·have hjb:j<b.length:=by omega
   have w2:IntKind.i64.wrap ((j:Int)+1)=((j+1:Nat):Int):=i64_in _ (by omega);have hne:a.getD j dStop≠b.getD j dStop→decide (a=b)=false:=fun h=>decide_eq_false fun z=>h (by rw[z]);have hnx:a.getD j dStop=b.getD j dStop→∀i,i<j+1→a.getD i dStop=b.getD i dStop:=fun h i hi=>by
    rcases Nat.lt_or_ge i j with q|q
    ·exact hn i q
    ·rw[show i=j by omega];exact h
   generalize hA:a.getD j dStop=u at hne hnx;generalize hB:b.getD j dStop=v at hne hnx;obtain ⟨u1,u2⟩:=u;obtain ⟨v1,v2⟩:=v;have huv:((u1,u2)=(v1,v2))↔u1=v1∧u2=v2:=Prod.mk.injEq _ _ _ _▸Iff.rfl;dsimp only[x42_0,x42_0d];simp only[↓hcsEqSt,hja,hjb,w2,hA,hB,habi,go_sem];try simp only[hja,hjb,w2,hA,hB,habi,td,reduceCtorEq]
   exact ⟨fun h=>(hne (fun q=>h (huv.1 q).1 (huv.1 q).2)).symm,fun h=>⟨j+1,by omega,⟨by omega,hnx (huv.2 h)⟩,rfl⟩⟩
  ·have hjb:¬j<b.length:=by omega
   have heq:decide (a=b)=true:=decide_eq_true (ext_getD dStop hab fun i hi=>hn i (by omega));dsimp only[x42_0,x42_0d];simp only[↓hcsEqSt,hja,hjb,habi,heq,go_sem];try simp only[hja,hjb,habi,heq,td,reduceCtorEq]
 ·have habi:¬(a.length:Int)=(b.length:Int):=by omega
  have hne:decide (a=b)=false:=decide_eq_false fun z=>hab (by rw[z]);dsimp only[entEqSt,x42];simp only[↓hcsEqSt,hab,habi,hne,go_sem];try simp only[hab,habi,hne,td,reduceCtorEq]
def entEqIn:Ent:=⟨44,.cons Z5 (.cons Z5 .nil),.bool,false,none,fun _=>True,fun x=>decide ((x.1:List Int)=x.2.1)⟩
def csEqIn:List Ent:=[] theorem hcsEqIn (f:FuncId):findEnt csEqIn f=findEnt [] f:=rfl
theorem conEqIn:Con Tryz.prog entEqIn:=by
 refine con_is (C:=csEqIn) x44 (by kernel_rfl) (by simp[csEqIn]) fun x hx hf=>?_;obtain ⟨(a:List Int),(b:List Int),_⟩:=x;have hl:a.length≤9223372036854775807:=hf.1.1;by_cases hab:a.length=b.length
 ·have habi:(a.length:Int)=(b.length:Int):=by omega
  dsimp only[entEqIn,x44];simp only[↓hcsEqIn,habi,go_sem];try simp only[habi,td,reduceCtorEq]
  refine XW_for 1000 x44_0d [] Nat (fun j=>[(13,.val Z1 (j:Int))]) (fun _=>[]) (fun j=>j≤a.length∧∀i,i<j→a.getD i 0=b.getD i 0) (fun j=>a.length-j) 0 ?_ ?_ ?_
  ·dsimp only[x44_0d];simp only[go_sem];try trivial
  ·exact ⟨Nat.zero_le _,fun i hi=>by omega⟩
  rintro j ⟨hj,hn⟩;by_cases hja:j<a.length
  ·have hjb:j<b.length:=by omega
   have w2:IntKind.i64.wrap ((j:Int)+1)=((j+1:Nat):Int):=i64_in _ (by omega);have hne:a.getD j 0≠b.getD j 0→decide (a=b)=false:=fun h=>decide_eq_false fun z=>h (by rw[z]);have hnx:a.getD j 0=b.getD j 0→∀i,i<j+1→a.getD i 0=b.getD i 0:=fun h i hi=>by
    rcases Nat.lt_or_ge i j with q|q
    ·exact hn i q
    ·rw[show i=j by omega];exact h
   generalize hA:a.getD j 0=u at hne hnx;generalize hB:b.getD j 0=v at hne hnx;dsimp only[x44_0,x44_0d];simp only[↓hcsEqIn,hja,hjb,w2,hA,hB,habi,go_sem];try simp only[hja,hjb,w2,hA,hB,habi,td,reduceCtorEq]
   exact ⟨fun h=>(hne h).symm,fun h=>⟨j+1,by omega,⟨by omega,hnx h⟩,rfl⟩⟩
  ·have hjb:¬j<b.length:=by omega
   have heq:decide (a=b)=true:=decide_eq_true (ext_getD 0 hab fun i hi=>hn i (by omega));dsimp only[x44_0,x44_0d];simp only[↓hcsEqIn,hja,hjb,habi,heq,go_sem];try simp only[hja,hjb,habi,heq,td,reduceCtorEq]
 ·have habi:¬(a.length:Int)=(b.length:Int):=by omega
  have hne:decide (a=b)=false:=decide_eq_false fun z=>hab (by rw[z]);dsimp only[entEqIn,x44];simp only[↓hcsEqIn,hab,habi,hne,go_sem];try simp only[hab,habi,hne,td,reduceCtorEq]
end T
end Go.Proofs.YtpocfbfmjippnaaGreat
end
section
namespace Go.Proofs.YtpocfbfmjippnaaGreat
namespace T
theorem good_lens {w:DWorld} {p:DPlan} (h:checkP w p=0):p.2.2.1.length=p.2.1.length∧p.2.2.2.length=p.2.1.length+1:=by
 refine ⟨(good_legs h).1,?_⟩;obtain ⟨_,h2,h3,_,_⟩:=check_ok h;have h6:=(good_has h).2.1;unfold okC at h3;rw[h6,Bool.and_eq_true,Bool.and_eq_true] at h3;have h5:=of_decide_eq_true h3.2.1;dsimp only[winsF] at h5;rw[List.length_map,List.length_range] at h5;exact h5
def FineR (w:DWorld) (c:Nat) (p:DPlan):Prop:=checkP w p=0∧p.2.1.length≤c
theorem FineR.lens {w:DWorld} {c:Nat} {p:DPlan} (h:FineR w c p):p.2.1.length≤c∧p.2.2.1.length≤c∧p.2.2.2.length≤c+1:=by
 have h1:=good_lens h.1;have h2:=h.2;exact ⟨h2,by omega,by omega⟩
theorem play_fine (w:DWorld):∀(o to:List Int) (ps:List DPlan) (i:Int) (c:Nat),0≤i→(playR w ps o to i).2<0→(∀p∈ps,FineR w c p)→∀p∈(playR w ps o to i).1,FineR w (c+2*o.length) p
 |[],to,ps,i,c,_,_,hp=>by unfold playR;exact hp
 |q::o,[],ps,i,c,_,_,hp=>by unfold playR;exact fun p hm=>⟨(hp p hm).1,Nat.le_trans (hp p hm).2 (Nat.le_add_right _ _)⟩
 |q::o,t::to,ps,i,c,hi,h,hp=>by
  have e:c+2*(q::o).length=c+2+2*o.length:=by rw[List.length_cons];omega
  rw[e];unfold playR at h⊢;by_cases c1:t<0
  ·rw[if_pos c1] at h⊢;exact play_fine w o to ps (i+1) (c+2) (by omega) h fun p hm=>⟨(hp p hm).1,Nat.le_trans (hp p hm).2 (Nat.le_add_right _ _)⟩
  ·rw[if_neg c1] at h⊢;by_cases d:(bstP w (ps.getD t.toNat dPln) q).2≠0
   ·rw[if_pos d] at h;exact absurd h (by show¬i<0;omega)
   ·rw[if_neg d] at h⊢;refine play_fine w o to _ (i+1) (c+2) (by omega) h fun p hm=>?_;rcases List.mem_or_eq_of_mem_set hm with hm|rfl
    ·exact ⟨(hp p hm).1,Nat.le_trans (hp p hm).2 (Nat.le_add_right _ _)⟩
    ·have hb:=bst_len (Decidable.not_not.1 d);refine ⟨hb.2,?_⟩;by_cases ht:t.toNat<ps.length
     ·have:=(hp (ps.getD t.toNat dPln) (by simp[List.getD,ht])).2;rw[hb.1];omega
     ·rw[List.set_eq_of_length_le (by omega)] at hm;rw[hb.1];simp[List.getD,Nat.not_lt.1 ht,dPln]
theorem scan_fine {w:DWorld} {hs:List DPlan} {o:List Int} {c:Nat} {x:List Int×List DPlan×Int} {F:List DCase} (hS:scanR w hs o=(some x,F)) (hp:∀p∈hs,FineR w c p):(x.1.length=o.length∧x.2.1.length=hs.length)∧(∀p∈x.2.1,FineR w (c+2*o.length) p)∧(∀f∈F,f.1.length=o.length)∧F.length≤(hs.length+1)^o.length:=by
 obtain ⟨h1,h2,h3⟩:=scan_is w hs o;rw[hS] at h1 h3;obtain ⟨a1,a2,a3,_⟩:=h3 x rfl;have hm:=OkA.look w hs.length o [] hs (none,[]) (m:=o.length) (by simp) (OkA.zero _);rw[look_scan,hS] at hm;refine ⟨⟨hm.best x rfl,?_⟩,?_,hm.fails,?_⟩
 ·rw[a3];rcases play_rng w o x.1 hs 0 with h|h
  ·exact play_len w o x.1 hs 0 (Int.le_refl _) h
  ·omega
 ·rw[a3];exact play_fine w o x.1 hs 0 c (Int.le_refl _) a2 hp
 ·rw[show F=_ from h1,List.length_map,←ch_len];exact List.length_filter_le _ _
theorem help_fine {w:DWorld} {ps:List DPlan} {b:Int} {o:List Int} {c:Nat} (h:rightR38 w ps b o=true) (hl:∀p∈ps,p.2.1.length≤c):∀p∈helpF ps b,FineR w c p:=fun p hp=>by
 have hm:=(mem_helpF.1 hp).1;have hr:RightR w ps b o:=of_decide_eq_true h;obtain ⟨j,hj,rfl⟩:=List.getElem_of_mem hm;have:=(hr.2.2.2.1 j hj).1.1;rw[show ps.getD j dPln=ps[j] by simp[List.getD,hj]] at this;exact ⟨this,hl _ hm⟩
end T
end Go.Proofs.YtpocfbfmjippnaaGreat
end
section
namespace Go.Proofs.YtpocfbfmjippnaaGreat
open Go.RowKit Go.IntWalk
namespace T
set_option pp.deepTerms true
set_option pp.maxSteps 1000000
theorem playR_cons (w:DWorld) (ps:List DPlan) (q:Int) (o:List Int) (t:Int) (to:List Int) (i:Int):playR w ps (q::o) (t::to) i=if t<0 then playR w ps o to (i+1) else if (bstP w (ps.getD t.toNat dPln) q).2≠0 then ([],i) else playR w (ps.set t.toNat (bstP w (ps.getD t.toNat dPln) q).1) o to (i+1):=by rw[playR]
def entPy8:Ent:=⟨39,.cons Z21 (.cons Z23 (.cons Z5 (.cons Z5 .nil))),.cons Z23 (.cons Z1 .nil),true,none,fun x=>(List.length (α:=DPlan) x.2.1≤1000∧List.length (α:=Int) x.2.2.1≤2∧List.length (α:=Int) x.2.2.2.1=List.length (α:=Int) x.2.2.1)∧(∀p∈(x.2.1:List DPlan),p.2.1.length≤16)∧∀t∈(x.2.2.2.1:List Int),(t:Int)<(List.length (α:=DPlan) x.2.1:Int),fun x=>((playR x.1 x.2.1 x.2.2.1 x.2.2.2.1 0).1,(playR x.1 x.2.1 x.2.2.1 x.2.2.2.1 0).2,())⟩
end T
end Go.Proofs.YtpocfbfmjippnaaGreat
end
section
namespace Go.Proofs.YtpocfbfmjippnaaGreat
namespace T
theorem next_none {h:Int}:∀{t:List Int},(∀x∈t,x<0)→nextF h t=none
 |[],_=>rfl
 |a::r,hn=>by
  unfold nextF;rw[next_none (t:=r) fun x hx=>hn x (.tail _ hx)];have:=hn a (.head _);exact if_neg (by omega)
theorem next_some {h x:Int} {r:List Int} (hr:∀y∈r,y<0) (hx:0≤x):∀l:List Int,nextF h (l++x::r)=some (l++(if h≤x+1 then-1 else x+1)::List.replicate r.length (fstF h))
 |[]=>by
  rw[List.nil_append];unfold nextF;rw[next_none hr];exact if_pos hx
 |a::l=>by
  rw[List.cons_append];unfold nextF;rw[next_some hr hx l];rfl
def rowN (h:Int) (t:List Int) (k:Nat):List Int:=t.take (t.length-k)++List.replicate k (fstF h)
def setN (h:Int) (t:List Int) (k:Nat) (v:Int):List Int:=t.take (t.length-(k+1))++v::List.replicate k (fstF h)
theorem rowN_zero (h:Int) (t:List Int):rowN h t 0=t:=by
 unfold rowN;rw[Nat.sub_zero,List.take_length];exact List.append_nil t
theorem setN_len {h:Int} {t:List Int} {k:Nat} (hk:k<t.length) (v:Int):(setN h t k v).length=t.length:=by
 unfold setN;rw[List.length_append,List.length_cons,List.length_take,List.length_replicate];omega
theorem rowN_is {h:Int} {t:List Int} {k p:Nat} (hk:t.length=p+1+k):rowN h t k=setN h t k (t.getD p 0):=by
 have hp:p<t.length:=by omega
 unfold rowN setN;rw[show t.length-k=p+1 by omega,show t.length-(k+1)=p by omega,take_nx (d:=0) hp,List.append_assoc];rfl
theorem setN_get {h:Int} {t:List Int} {k p:Nat} (hk:t.length=p+1+k) (v:Int):(setN h t k v).getD p 0=v:=by
 unfold setN;rw[show t.length-(k+1)=p by omega];simp only[List.getD];rw[List.getElem?_append_right (by rw[List.length_take];omega),List.length_take,show p-min p t.length=0 by omega];rfl
theorem setN_set {h:Int} {t:List Int} {k p:Nat} (hk:t.length=p+1+k) (v w:Int):(setN h t k v).set p w=setN h t k w:=by
 unfold setN;rw[show t.length-(k+1)=p by omega,List.set_append_right _ _ (by rw[List.length_take];omega),List.length_take,show p-min p t.length=0 by omega];rfl
theorem next_row {h:Int} {t:List Int} {k p:Nat} (hk:t.length=p+1+k) (hn:∀j,p<j→j<t.length→t.getD j 0<0) (h0:0≤t.getD p 0):nextF h t=some (setN h t k (if h≤t.getD p 0+1 then-1 else t.getD p 0+1)):=by
 have hp:p<t.length:=by omega
 have e:t=t.take p++t.getD p 0::t.drop (p+1):=by
  have:=List.take_append_drop p t;rw[List.drop_eq_getElem_cons hp] at this;rw[show t.getD p 0=t[p] by simp[List.getD,hp]];exact this.symm
 have hl:(t.drop (p+1)).length=k:=by rw[List.length_drop];omega
 have hr:∀y∈t.drop (p+1),y<0:=fun y hy=>by
  obtain ⟨i,hi,rfl⟩:=List.getElem_of_mem hy;have:=hn (p+1+i) (by omega) (by omega);rw[List.getElem_drop];rw[show t.getD (p+1+i) 0=t[p+1+i]'(by omega) by simp[List.getD,show p+1+i<t.length by omega]] at this;exact this
 have:=next_some (h:=h) hr h0 (t.take p);rw[←e,hl] at this;rw[this];unfold setN;rw[show t.length-(k+1)=p by omega]
theorem next_end {h:Int} {t:List Int} (hn:∀j,j<t.length→t.getD j 0<0):nextF h t=none:=next_none fun x hx=>by
 obtain ⟨i,hi,rfl⟩:=List.getElem_of_mem hx;have:=hn i hi;rw[show t.getD i 0=t[i] by simp[List.getD,hi]] at this;exact this
theorem ch_at {h n i:Nat} (hi:i<(chF h n).length):((chF h n).getD i []).length=n∧∀t∈(chF h n).getD i [],t<(h:Int):=by
 have hm:(chF h n).getD i []∈chF h n:=by simp[List.getD,hi]
 obtain ⟨h1,h2⟩:=mem_ch.1 hm;refine ⟨h1,fun t ht=>?_⟩;rcases mem_dig.1 (h2 t ht) with e|⟨k,hk,e⟩<;>omega
structure StOk (n i:Nat) (a:DRep):Prop where
 to:∀x,a.1=some x→x.1.length=n
 len:a.2.length≤i
 all:∀c∈a.2,c.1.length=n
def keepB (b:List Int) (c:DCase):Bool:=decide (lessR c.1 b<0)
def keepR (b:List Int) (L:List DCase):List DCase:=L.filter (keepB b)
end T
end Go.Proofs.YtpocfbfmjippnaaGreat
end
