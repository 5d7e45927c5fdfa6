/- Parts of the proof of the law; no condition. -/
import Derived.Test.YtpocfbfmjippnaaGreatF52
set_option linter.all false
section
namespace Go.Proofs.YtpocfbfmjippnaaGreat
namespace T
theorem good_lens {w:DWorld} {p:DPlan} (h:checkP w p=0):p.2.2.1.length=p.2.1.length∧p.2.2.2.length=p.2.1.length+1:=by
 refine ⟨(good_legs h).1,?_⟩;obtain ⟨_,h2,h3,_,_⟩:=check_ok h;have h6:=(good_has h).2.1;unfold okC at h3;rw[h6,Bool.and_eq_true,Bool.and_eq_true] at h3;have h5:=of_decide_eq_true h3.2.1;dsimp only[winsF] at h5;rw[List.length_map,List.length_range] at h5;exact h5
def FineR (w:DWorld) (c:Nat) (p:DPlan):Prop:=checkP w p=0∧p.2.1.length≤c
theorem FineR.lens {w:DWorld} {c:Nat} {p:DPlan} (h:FineR w c p):p.2.1.length≤c∧p.2.2.1.length≤c∧p.2.2.2.length≤c+1:=by
 have h1:=good_lens h.1;have h2:=h.2;exact ⟨h2,by omega,by omega⟩
theorem play_fine (w:DWorld):∀(o to:List Int) (ps:List DPlan) (i:Int) (c:Nat),0≤i→(playR w ps o to i).2<0→(∀p∈ps,FineR w c p)→∀p∈(playR w ps o to i).1,FineR w (c+2*o.length) p
 |[],to,ps,i,c,_,_,hp=>by unfold playR;exact hp
 |q::o,[],ps,i,c,_,_,hp=>by unfold playR;exact fun p hm=>⟨(hp p hm).1,Nat.le_trans (hp p hm).2 (Nat.le_add_right _ _)⟩
 |q::o,t::to,ps,i,c,hi,h,hp=>by
  have e:c+2*(q::o).length=c+2+2*o.length:=by rw[List.length_cons];omega
  rw[e];unfold playR at h⊢;by_cases c1:t<0
  ·rw[if_pos c1] at h⊢;exact play_fine w o to ps (i+1) (c+2) (by omega) h fun p hm=>⟨(hp p hm).1,Nat.le_trans (hp p hm).2 (Nat.le_add_right _ _)⟩
  ·rw[if_neg c1] at h⊢;by_cases d:(bstP w (ps.getD t.toNat dPln) q).2≠0
   ·rw[if_pos d] at h;exact absurd h (by show¬i<0;omega)
   ·rw[if_neg d] at h⊢;refine play_fine w o to _ (i+1) (c+2) (by omega) h fun p hm=>?_;rcases List.mem_or_eq_of_mem_set hm with hm|rfl
    ·exact ⟨(hp p hm).1,Nat.le_trans (hp p hm).2 (Nat.le_add_right _ _)⟩
    ·have hb:=bst_len (Decidable.not_not.1 d);refine ⟨hb.2,?_⟩;by_cases ht:t.toNat<ps.length
     ·have:=(hp (ps.getD t.toNat dPln) (by simp[List.getD,ht])).2;rw[hb.1];omega
     ·rw[List.set_eq_of_length_le (by omega)] at hm;rw[hb.1];simp[List.getD,Nat.not_lt.1 ht,dPln]
theorem scan_fine {w:DWorld} {hs:List DPlan} {o:List Int} {c:Nat} {x:List Int×List DPlan×Int} {F:List DCase} (hS:scanR w hs o=(some x,F)) (hp:∀p∈hs,FineR w c p):(x.1.length=o.length∧x.2.1.length=hs.length)∧(∀p∈x.2.1,FineR w (c+2*o.length) p)∧(∀f∈F,f.1.length=o.length)∧F.length≤(hs.length+1)^o.length:=by
 obtain ⟨h1,h2,h3⟩:=scan_is w hs o;rw[hS] at h1 h3;obtain ⟨a1,a2,a3,_⟩:=h3 x rfl;have hm:=OkA.look w hs.length o [] hs (none,[]) (m:=o.length) (by simp) (OkA.zero _);rw[look_scan,hS] at hm;refine ⟨⟨hm.best x rfl,?_⟩,?_,hm.fails,?_⟩
 ·rw[a3];rcases play_rng w o x.1 hs 0 with h|h
  ·exact play_len w o x.1 hs 0 (Int.le_refl _) h
  ·omega
 ·rw[a3];exact play_fine w o x.1 hs 0 c (Int.le_refl _) a2 hp
 ·rw[show F=_ from h1,List.length_map,←ch_len];exact List.length_filter_le _ _
theorem help_fine {w:DWorld} {ps:List DPlan} {b:Int} {o:List Int} {c:Nat} (h:rightR38 w ps b o=true) (hl:∀p∈ps,p.2.1.length≤c):∀p∈helpF ps b,FineR w c p:=fun p hp=>by
 have hm:=(mem_helpF.1 hp).1;have hr:RightR w ps b o:=of_decide_eq_true h;obtain ⟨j,hj,rfl⟩:=List.getElem_of_mem hm;have:=(hr.2.2.2.1 j hj).1.1;rw[show ps.getD j dPln=ps[j] by simp[List.getD,hj]] at this;exact ⟨this,hl _ hm⟩
end T
end Go.Proofs.YtpocfbfmjippnaaGreat
end
section
namespace Go.Proofs.YtpocfbfmjippnaaGreat
open Go.RowKit Go.IntWalk
namespace T
set_option pp.deepTerms true
set_option pp.maxSteps 1000000
def entOf38:Ent:=⟨10,.cons Z23 .nil,Z23,false,none,fun _=>True,fun x=>x.1⟩
def csOf38:List Ent:=[] theorem hcsOf38 (f:FuncId):findEnt csOf38 f=findEnt [] f:=rfl
theorem conOf38:Con Tryz.prog entOf38:=by
 refine con_is (C:=csOf38) x10 (by kernel_rfl) (by simp[csOf38]) fun x hx hf=>?_;obtain ⟨⟨(N:Int),(A:List DArc),(C:List DCar),(Q:List DReq),(P:List DPair),(S1:Int),(S2:Int),(S3:Int)⟩,_⟩:=x;dsimp only[entOf38,x10,Z1,Z20,Z21,Z22,Z23,Z5,Z7,Zb,Zd,Zg];simp only[↓hcsOf38,undef,go_sem];try simp only[td,reduceCtorEq]
end T
end Go.Proofs.YtpocfbfmjippnaaGreat
end
section
namespace Go.Proofs.YtpocfbfmjippnaaGreat
namespace T
structure StOk (n i:Nat) (a:DRep):Prop where
 to:∀x,a.1=some x→x.1.length=n
 len:a.2.length≤i
 all:∀c∈a.2,c.1.length=n
def keepB (b:List Int) (c:DCase):Bool:=decide (lessR c.1 b<0)
def keepR (b:List Int) (L:List DCase):List DCase:=L.filter (keepB b)
end T
end Go.Proofs.YtpocfbfmjippnaaGreat
end
section
namespace Go.Proofs.YtpocfbfmjippnaaGreat
open Go.RowKit Go.IntWalk
namespace T
set_option pp.deepTerms true
set_option pp.maxSteps 1000000
def entBs0:Ent:={ entBsX with pre:=fun x=>(List.length (α:=DPlan) x.2.1≤1000∧(List.length (α:=Int) x.2.2.2.1=0∨4<List.length (α:=Int) x.2.2.2.1∧List.length (α:=Int) x.2.2.2.1≤1000))∧∀p∈(x.2.1:List DPlan),p.2.1.length≤16 }
set_option maxHeartbeats 4000000 in
theorem conBs0:Con Tryz.prog entBs0:=by
 refine con_is (C:=csBsX) z9 (by kernel_rfl) (by simp[csBsX,conRgt,conHlp,conEnd,conLsP,conCiF,conCpF,conBst,conPow,conCop,conCiD,conCpD]) fun x hx hf=>?_;obtain ⟨⟨(N:Int),(A:List DArc),(C:List DCar),(Q:List DReq),(P:List DPair),(S1:Int),(S2:Int),(S3:Int)⟩,(ps:List DPlan),(b:Int),(o:List Int),_⟩:=x;obtain ⟨⟨hl,ho⟩,hx⟩:(ps.length≤1000∧(o.length=0∨4<o.length∧o.length≤1000))∧∀p∈ps,p.2.1.length≤16:=hx;have h1:∀p∈ps,p.2.1.length≤24:=fun p hp=>by have:=hx p hp;omega
 have ho1:o.length≤1000:=by omega
 dsimp only[entBs0,entBsX,z9,Z1,Z11,Z12,Z23,Z26,Z27,Z9,Za,Zb,Zc,Zd,Zg];cases hrr:rightR38 (N,A,C,Q,P,S1,S2,S3) ps b o with
 |false=>
  have hF:=best_bad hrr;simp only[↓hcsBsX,entRgt,entHlp,entEnd,entLsP,entCiF,entCpF,entBst,entPow,entCop,entCiD,entCpD,undef,hrr,h1,hl,ho1,hF,go_sem];try simp only[hrr,h1,hl,ho1,hF,td,reduceCtorEq]
  all_goals first|done|exact h1
 |true=>
 by_cases h5:3<(helpF ps b).length
 ·have hF:=best_full hrr (.inr h5);have h5':((helpF ps b).length:Int)>3:=by omega
  simp only[↓hcsBsX,entRgt,entHlp,entEnd,entLsP,entCiF,entCpF,entBst,entPow,entCop,entCiD,entCpD,undef,hrr,h1,hl,ho1,h5',hF,go_sem];try simp only[hrr,h1,hl,ho1,h5',hF,td,reduceCtorEq]
  all_goals first|done|exact h1
 have h5':¬((helpF ps b).length:Int)>3:=by omega
 rcases ho with ho|⟨ho,_⟩
 case inr=>
  have hF:=best_full hrr (.inl ho);have h4:(o.length:Int)>4:=by omega
  simp only[↓hcsBsX,entRgt,entHlp,entEnd,entLsP,entCiF,entCpF,entBst,entPow,entCop,entCiD,entCpD,undef,hrr,h1,hl,ho1,h5',h4,hF,go_sem];try simp only[hrr,h1,hl,ho1,h5',h4,hF,td,reduceCtorEq]
  all_goals first|done|exact h1
 obtain rfl:=List.eq_nil_of_length_eq_zero ho;obtain ⟨x,F,hS,hF⟩:=best_ok hrr (fun z=>z.elim (by simp) h5);rw[keep_eq] at hF;have hHx:∀p∈helpF ps b,p.2.1.length≤16:=fun p hp=>hx p (mem_helpF.1 hp).1;have hfine:=scan_fine hS (help_fine hrr hx);rw[←look_scan] at hS;have hS:(leafR [] (helpF ps b) (endsR (N,A,C,Q,P,S1,S2,S3) (helpF ps b)) none,([]:List DCase))=(some x,F):=hS;rw[leafR_none] at hS;obtain ⟨hs,hH⟩:∃hs,helpF ps b=hs:=⟨_,rfl⟩;rw[hH] at h5 h5' hHx hS hfine;have hpw2:∀n:Nat,n≤(hs.length+1)^([]:List Int).length→n≤1000000:=fun n hn=>by rw[show (hs.length+1)^([]:List Int).length=1 from rfl] at hn;omega
 have n14:¬((0:Nat):Int)>4:=by decide
 simp only[↓hcsBsX,entRgt,entHlp,entEnd,entLsP,entCiF,entCpF,entBst,entPow,entCop,entCiD,entCpD,undef,hrr,h1,hl,h5',hH,n14,go_sem];try simp only[hrr,h1,hl,h5',hH,n14,td,reduceCtorEq]
 refine ⟨h1,?_⟩;refine XW_top (XW_nilb 26 12 60 Z12 rfl rfl (XW_of ?_));dsimp only[z33,Z1,Z25,Z9,Za,Zb,Zc,Ze,Zg,Zi];simp only[↓hcsBsX,entRgt,entHlp,entEnd,entLsP,entCiF,entCpF,entBst,entPow,entCop,entCiD,entCpD,undef,go_sem];refine XW_top (XW_frz 1 32 rfl rfl (XW_of ?_));dsimp only;have n01:(((0:Nat):Int)==((0:Nat):Int))=true:=rfl;simp only[↓hcsBsX,entRgt,entHlp,entEnd,entLsP,entCiF,entCpF,entBst,entPow,entCop,entCiD,entCpD,undef,n01,go_sem];try simp only[n01,td,reduceCtorEq]
 have hHl:∀p∈hs,p.2.1.length≤16:=hHx;have nl0:(0:Nat)≤1000:=by decide
 refine XW_for 2000 z33_0d [0,1,2,3,26,27,29] Nat (fun i=>[(30,.val Z1 (i:Int)),(6,.val Z1 (endsR (N,A,C,Q,P,S1,S2,S3) (hs.take i)))]) (fun _=>[]) (fun i=>i≤hs.length) (fun i=>hs.length-i) 0 ?_ ?_ ?_
 ·dsimp only[z33_0d];simp only[optAV_none,optAV_some,optI_none,optI_some,optP_none,optP_some,optAV_locs,optAV_ren,optAV_le,toO_none,plO_none,enO_none,toO_some,plO_some,enO_some,go_sem];first|done|exact ⟨rfl,rfl⟩|rfl
 ·exact Nat.zero_le _
 intro i hi;dsimp only[z33_0,z33_0d,Z11,Z23,Za,Zb,Zc,Zf,Zg];by_cases hi':i<hs.length
 case pos=>
  have wi:IntKind.i64.wrap ((i:Int)+1)=((i+1:Nat):Int):=i64_in _ (by omega);have hpi:=hHl (hs.getD i dPln) (by simp[List.getD,hi']);have he1:=endsR_at (w:=(N,A,C,Q,P,S1,S2,S3)) hi';have he2:=endsR_rng (N,A,C,Q,P,S1,S2,S3) (hs.take (i+1));rw[List.length_take] at he2;dsimp only[dPln] at hpi he1;obtain ⟨⟨pc,pss,pL,pG⟩,hPi⟩:∃p:DPlan,hs.getD i (0,[],[],[])=p:=⟨_,rfl⟩;rw[hPi] at hpi he1;have hp24:pss.length≤24:=Nat.le_trans hpi (by decide);have we:IntKind.i64.wrap (endsR (N,A,C,Q,P,S1,S2,S3) (hs.take i)+(endP (N,A,C,Q,P,S1,S2,S3) (pc,pss,pL,pG)).1)=endsR (N,A,C,Q,P,S1,S2,S3) (hs.take (i+1)):=by
   rw[←he1];exact i64_in _ (by omega)
  simp only[↓hcsBsX,entRgt,entHlp,entEnd,entLsP,entCiF,entCpF,entBst,entPow,entCop,entCiD,entCpD,undef,hi',hPi,hp24,wi,we,optAV_none,optAV_some,optI_none,optI_some,optP_none,optP_some,optAV_locs,optAV_ren,optAV_le,toO_none,plO_none,enO_none,toO_some,plO_some,enO_some,go_sem];try simp only[hi',hPi,hp24,wi,we,optAV_none,optAV_some,optI_none,optI_some,optP_none,optP_some,optAV_locs,optAV_ren,optAV_le,toO_none,plO_none,enO_none,toO_some,plO_some,enO_some,td,reduceCtorEq]
  exact ⟨i+1,by omega,hi',rfl,rfl⟩
 have hi2:i=hs.length:=by omega
 rw[hi2,List.take_length];rw[hi2] at hi';clear hi hi2;have hPm:hs.length≤1000000:=by omega
 simp only[↓hcsBsX,↓hdBsX,entRgt,entHlp,entEnd,entLsP,entCiF,entCpF,entBst,entPow,entCop,entCiD,entCpD,undef,hi',hPm,nl0,optAV_none,optAV_some,optI_none,optI_some,optP_none,optP_some,optAV_locs,optAV_ren,optAV_le,toO_none,plO_none,enO_none,toO_some,plO_some,enO_some,go_sem];try simp only[hi',hPm,nl0,optAV_none,optAV_some,optI_none,optI_some,optP_none,optP_some,optAV_locs,optAV_ren,optAV_le,toO_none,plO_none,enO_none,toO_some,plO_some,enO_some,td,reduceCtorEq]
 obtain ⟨e1,rfl⟩:=Prod.mk.inj hS;obtain rfl:=Option.some.inj e1;obtain ⟨⟨g1,g2⟩,g3,g4,g5⟩:=hfine;dsimp only at g1 g2 g3;refine XW_top (XW_leq (rest38 (N:=N) (A:=A) (C:=C) (Q:=Q) (P:=P) (S1:=S1) (S2:=S2) (S3:=S3) (xl:=hs) (x0:=([]:List Int)) (xn:=endsR (N,A,C,Q,P,S1,S2,S3) hs) (o:=([]:List Int)) (hs:=hs) (F:=([]:List DCase)) (b:=b) (ps:=ps) g1 ho1 g4 (hpw2 _ g5) (by rw[g2];omega) (fun p hp=>⟨Nat.le_trans (g3 p hp).lens.1 (Nat.le_of_ble_eq_true rfl),Nat.le_trans (g3 p hp).lens.2.1 (Nat.le_of_ble_eq_true rfl),Nat.le_trans (g3 p hp).lens.2.2 (Nat.le_of_ble_eq_true rfl)⟩) (by rw[hF])) ?_);simp only[le',avle,optAV_none,optAV_some,optI_none,optI_some,optP_none,optP_some,optAV_locs,optAV_ren,optAV_le,toO_none,plO_none,enO_none,toO_some,plO_some,enO_some,go_sem]
end T
end Go.Proofs.YtpocfbfmjippnaaGreat
end
