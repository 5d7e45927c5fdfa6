/- Parts of the proof of the law; no condition. -/
import Derived.Test.YtpocfbfmjippnaaGreatH43
import Derived.Test.YtpocfbfmjippnaaGreatH52
set_option linter.all false
section
namespace Go.Proofs.YtpocfbfmjippnaaGreat
namespace T
theorem good_lens {w:DWorld} {p:DPlan} (h:checkP w p=0):p.2.2.1.length=p.2.1.length∧p.2.2.2.length=p.2.1.length+1:=by
 refine ⟨(good_legs h).1,?_⟩;obtain ⟨_,h2,h3,_,_⟩:=check_ok h;have h6:=(good_has h).2.1;unfold okC at h3;rw[h6,Bool.and_eq_true,Bool.and_eq_true] at h3;have h5:=of_decide_eq_true h3.2.1;dsimp only[winsF] at h5;rw[List.length_map,List.length_range] at h5;exact h5
def FineR (w:DWorld) (c:Nat) (p:DPlan):Prop:=checkP w p=0∧p.2.1.length≤c
theorem FineR.lens {w:DWorld} {c:Nat} {p:DPlan} (h:FineR w c p):p.2.1.length≤c∧p.2.2.1.length≤c∧p.2.2.2.length≤c+1:=by
 have h1:=good_lens h.1;have h2:=h.2;exact ⟨h2,by omega,by omega⟩
theorem play_fine (w:DWorld):∀(o to:List Int) (ps:List DPlan) (i:Int) (c:Nat),0≤i→(playR w ps o to i).2<0→(∀p∈ps,FineR w c p)→∀p∈(playR w ps o to i).1,FineR w (c+2*o.length) p
 |[],to,ps,i,c,_,_,hp=>by unfold playR;exact hp
 |q::o,[],ps,i,c,_,_,hp=>by unfold playR;exact fun p hm=>⟨(hp p hm).1,Nat.le_trans (hp p hm).2 (Nat.le_add_right _ _)⟩
 |q::o,t::to,ps,i,c,hi,h,hp=>by
  have e:c+2*(q::o).length=c+2+2*o.length:=by rw[List.length_cons];omega
  rw[e];unfold playR at h⊢;by_cases c1:t<0
  ·rw[if_pos c1] at h⊢;exact play_fine w o to ps (i+1) (c+2) (by omega) h fun p hm=>⟨(hp p hm).1,Nat.le_trans (hp p hm).2 (Nat.le_add_right _ _)⟩
  ·rw[if_neg c1] at h⊢;by_cases d:(bstP w (ps.getD t.toNat dPln) q).2≠0
   ·rw[if_pos d] at h;exact absurd h (by show¬i<0;omega)
   ·rw[if_neg d] at h⊢;refine play_fine w o to _ (i+1) (c+2) (by omega) h fun p hm=>?_;rcases List.mem_or_eq_of_mem_set hm with hm|rfl
    ·exact ⟨(hp p hm).1,Nat.le_trans (hp p hm).2 (Nat.le_add_right _ _)⟩
    ·have hb:=bst_len (Decidable.not_not.1 d);refine ⟨hb.2,?_⟩;by_cases ht:t.toNat<ps.length
     ·have:=(hp (ps.getD t.toNat dPln) (by simp[List.getD,ht])).2;rw[hb.1];omega
     ·rw[List.set_eq_of_length_le (by omega)] at hm;rw[hb.1];simp[List.getD,Nat.not_lt.1 ht,dPln]
theorem scan_fine {w:DWorld} {hs:List DPlan} {o:List Int} {c:Nat} {x:List Int×List DPlan×Int} {F:List DCase} (hS:scanR w hs o=(some x,F)) (hp:∀p∈hs,FineR w c p):(x.1.length=o.length∧x.2.1.length=hs.length)∧(∀p∈x.2.1,FineR w (c+2*o.length) p)∧(∀f∈F,f.1.length=o.length)∧F.length≤(hs.length+1)^o.length:=by
 obtain ⟨h1,h2,h3⟩:=scan_is w hs o;rw[hS] at h1 h3;obtain ⟨a1,a2,a3,_⟩:=h3 x rfl;have hm:=OkA.look w hs.length o [] hs (none,[]) (m:=o.length) (by simp) (OkA.zero _);rw[look_scan,hS] at hm;refine ⟨⟨hm.best x rfl,?_⟩,?_,hm.fails,?_⟩
 ·rw[a3];rcases play_rng w o x.1 hs 0 with h|h
  ·exact play_len w o x.1 hs 0 (Int.le_refl _) h
  ·omega
 ·rw[a3];exact play_fine w o x.1 hs 0 c (Int.le_refl _) a2 hp
 ·rw[show F=_ from h1,List.length_map,←ch_len];exact List.length_filter_le _ _
theorem help_fine {w:DWorld} {ps:List DPlan} {b:Int} {o:List Int} {c:Nat} (h:rightR38 w ps b o=true) (hl:∀p∈ps,p.2.1.length≤c):∀p∈helpF ps b,FineR w c p:=fun p hp=>by
 have hm:=(mem_helpF.1 hp).1;have hr:RightR w ps b o:=of_decide_eq_true h;obtain ⟨j,hj,rfl⟩:=List.getElem_of_mem hm;have:=(hr.2.2.2.1 j hj).1.1;rw[show ps.getD j dPln=ps[j] by simp[List.getD,hj]] at this;exact ⟨this,hl _ hm⟩
end T
end Go.Proofs.YtpocfbfmjippnaaGreat
end
section
namespace Go.Proofs.YtpocfbfmjippnaaGreat
open Go.RowKit Go.IntWalk
namespace T
set_option pp.deepTerms true
set_option pp.maxSteps 1000000
theorem playR_cons (w:DWorld) (ps:List DPlan) (q:Int) (o:List Int) (t:Int) (to:List Int) (i:Int):playR w ps (q::o) (t::to) i=if t<0 then playR w ps o to (i+1) else if (bstP w (ps.getD t.toNat dPln) q).2≠0 then ([],i) else playR w (ps.set t.toNat (bstP w (ps.getD t.toNat dPln) q).1) o to (i+1):=by rw[playR]
def entPy8:Ent:=⟨39,.cons Z21 (.cons Z23 (.cons Z5 (.cons Z5 .nil))),.cons Z23 (.cons Z1 .nil),true,none,fun x=>(List.length (α:=DPlan) x.2.1≤1000∧List.length (α:=Int) x.2.2.1≤2∧List.length (α:=Int) x.2.2.2.1=List.length (α:=Int) x.2.2.1)∧(∀p∈(x.2.1:List DPlan),p.2.1.length≤16)∧∀t∈(x.2.2.2.1:List Int),(t:Int)<(List.length (α:=DPlan) x.2.1:Int),fun x=>((playR x.1 x.2.1 x.2.2.1 x.2.2.2.1 0).1,(playR x.1 x.2.1 x.2.2.1 x.2.2.2.1 0).2,())⟩
def csPy8:List Ent:=[entBsR] theorem hcsPy8 (f:FuncId):findEnt csPy8 f=findEnt [entBsR] f:=rfl
set_option maxHeartbeats 4000000 in
theorem conPy8:Con Tryz.prog entPy8:=by
 refine con_is (C:=csPy8) x39 (by kernel_rfl) (by simp[csPy8,conBsR]) fun x hx hf=>?_;obtain ⟨⟨(N:Int),(A:List DArc),(C:List DCar),(Q:List DReq),(P:List DPair),(S1:Int),(S2:Int),(S3:Int)⟩,(ps:List DPlan),(o:List Int),(to:List Int),_⟩:=x;obtain ⟨⟨h1,h2,h3⟩,h4,h5⟩:(ps.length≤1000∧o.length≤2∧to.length=o.length)∧(∀p∈ps,p.2.1.length≤16)∧∀t∈to,t<(ps.length:Int):=hx;have hb:(ps.length+0)*80≤140737488355328:=by omega
 dsimp only[entPy8,x39];simp only[↓hcsPy8,entBsR,undef,h1,go_sem];try simp only[h1,td,reduceCtorEq]
 refine ⟨by omega,?_⟩;refine XW_for 1000 x39_0d [0] (Nat×List DPlan) (fun s=>[(11,.val Z1 (s.1:Int))]) (fun s=>[(5,.row 65 Z22 s.2)]) (fun s=>s.1≤o.length∧s.2.length=ps.length∧(∀p∈s.2,p.2.1.length≤16+2*s.1)∧playR (N,A,C,Q,P,S1,S2,S3) ps o to 0=playR (N,A,C,Q,P,S1,S2,S3) s.2 (o.drop s.1) (to.drop s.1) (s.1:Int)) (fun s=>o.length-s.1) (0,ps) ?_ ?_ ?_
 ·dsimp only[x39_0d];simp only[go_sem];first|done|exact ⟨rfl,rfl⟩|rfl
 ·exact ⟨Nat.zero_le _,rfl,h4,rfl⟩
 rintro ⟨j,R⟩ ⟨hj,hR,hp,hI⟩;dsimp only at hj hR hp hI;dsimp only[x39_0,x39_0d];by_cases hj':j<o.length
 case neg=>
  obtain rfl:j=o.length:=by omega
  have hI':playR (N,A,C,Q,P,S1,S2,S3) ps o to 0=(R,-1):=by rw[hI,List.drop_length,playR];intro q o' t to' h;cases h
  simp only[↓hcsPy8,entBsR,undef,hj',hI',go_sem];try simp only[hj',hI',td,reduceCtorEq]
 have hjt:j<to.length:=by omega
 have wj:IntKind.i64.wrap ((j:Int)+1)=((j+1:Nat):Int):=i64_in _ (by omega);have hdo:o.drop j=o.getD j 0::o.drop (j+1):=by rw[List.drop_eq_getElem_cons hj'];simp[List.getD,hj']
 have hdt:to.drop j=to.getD j 0::to.drop (j+1):=by rw[List.drop_eq_getElem_cons hjt];simp[List.getD,hjt]
 rw[hdo,hdt,playR_cons] at hI;have hpw:∀p∈R,p.2.1.length≤16+2*(j+1):=fun p h=>Nat.le_trans (hp p h) (by omega);by_cases ht:to.getD j 0<0
 ·rw[if_pos ht] at hI;simp only[↓hcsPy8,entBsR,undef,hj',hjt,ht,wj,go_sem];try simp only[hj',hjt,ht,wj,td,reduceCtorEq]
  exact ⟨(j+1,R),by dsimp only;omega,⟨hj',hR,hpw,hI⟩,rfl,rfl⟩
 rw[if_neg ht] at hI;obtain ⟨n,hn⟩:∃n:Nat,to.getD j 0=(n:Int):=⟨(to.getD j 0).toNat,by omega⟩;have hnR:n<R.length:=by
  have:=h5 (to.getD j 0) (by simp[List.getD,hjt]);omega
 rw[hn,Int.toNat_natCast] at hI;have hn0:¬(n:Int)<0:=by omega
 obtain ⟨q,hq⟩:∃q,o.getD j 0=q:=⟨_,rfl⟩;rw[hq] at hI;have hbl:=bst_len (w:=(N,A,C,Q,P,S1,S2,S3)) (p:=R.getD n dPln) (q:=q);have hpk:=hp (R.getD n dPln) (by simp[List.getD,hnR]);dsimp only[dPln] at hpk hI hbl;obtain ⟨⟨c,ss,L,G⟩,hP⟩:∃p:DPlan,R.getD n (0,[],[],[])=p:=⟨_,rfl⟩;rw[hP] at hpk hI hbl;dsimp only at hpk;have hp20:ss.length≤20:=by omega
 unfold bstP at hI hbl;obtain ⟨⟨⟨x1,x2,x3,x4⟩,y1,y2,y3,e⟩,hB⟩:∃X:DPlan×Int×Int×List DPlace×Int,bestF (N,A,C,Q,P,S1,S2,S3) (c,ss,L,G) q=X:=⟨_,rfl⟩;rw[hB] at hI hbl;dsimp only at hI hbl;by_cases he:e=0
 case neg=>
  rw[if_pos he] at hI;simp only[↓hcsPy8,entBsR,undef,hj',hjt,hn,hn0,hq,hnR,hP,hp20,hB,he,wj,hI,go_sem];try simp only[hj',hjt,hn,hn0,hq,hnR,hP,hp20,hB,he,wj,hI,td,reduceCtorEq]
 subst he;rw[if_neg (by decide)] at hI;simp only[↓hcsPy8,entBsR,undef,hj',hjt,hn,hn0,hq,hnR,hP,hp20,hB,wj,go_sem];try simp only[hj',hjt,hn,hn0,hq,hnR,hP,hp20,hB,wj,td,reduceCtorEq]
 have hx2:x2.length=ss.length+2:=(hbl rfl).1;refine ⟨(j+1,R.set n (x1,x2,x3,x4)),by dsimp only;omega,⟨hj',by dsimp only;rw[List.length_set];exact hR,fun p h=>?_,hI⟩,rfl,rfl⟩;rcases List.mem_or_eq_of_mem_set h with h|rfl
 ·exact hpw p h
 ·show x2.length≤16+2*(j+1);omega
set_option pp.deepTerms true
set_option pp.maxSteps 1000000
def entBs0:Ent:={ entBsX with pre:=fun x=>(List.length (α:=DPlan) x.2.1≤1000∧(List.length (α:=Int) x.2.2.2.1=0∨4<List.length (α:=Int) x.2.2.2.1∧List.length (α:=Int) x.2.2.2.1≤1000))∧∀p∈(x.2.1:List DPlan),p.2.1.length≤16 }
set_option maxHeartbeats 4000000 in
theorem conBs0:Con Tryz.prog entBs0:=by
 refine con_is (C:=csBsX) z9 (by kernel_rfl) (by simp[csBsX,conRgt,conHlp,conEnd,conLsP,conCiF,conCpF,conBst,conPow,conCop,conCiD,conCpD]) fun x hx hf=>?_;obtain ⟨⟨(N:Int),(A:List DArc),(C:List DCar),(Q:List DReq),(P:List DPair),(S1:Int),(S2:Int),(S3:Int)⟩,(ps:List DPlan),(b:Int),(o:List Int),_⟩:=x;obtain ⟨⟨hl,ho⟩,hx⟩:(ps.length≤1000∧(o.length=0∨4<o.length∧o.length≤1000))∧∀p∈ps,p.2.1.length≤16:=hx;have h1:∀p∈ps,p.2.1.length≤24:=fun p hp=>by have:=hx p hp;omega
 have ho1:o.length≤1000:=by omega
 dsimp only[entBs0,entBsX,z9,Z1,Z21,Z22,Z24,Z26,Z27,Z5,Za,Zb,Zc,Ze,Zh];cases hrr:rightR38 (N,A,C,Q,P,S1,S2,S3) ps b o with
 |false=>
  have hF:=best_bad hrr;simp only[↓hcsBsX,entRgt,entHlp,entEnd,entLsP,entCiF,entCpF,entBst,entPow,entCop,entCiD,entCpD,undef,hrr,h1,hl,ho1,hF,go_sem];try simp only[hrr,h1,hl,ho1,hF,td,reduceCtorEq]
  all_goals first|done|exact h1
 |true=>
 by_cases h5:3<(helpF ps b).length
 ·have hF:=best_full hrr (.inr h5);have h5':((helpF ps b).length:Int)>3:=by omega
  simp only[↓hcsBsX,entRgt,entHlp,entEnd,entLsP,entCiF,entCpF,entBst,entPow,entCop,entCiD,entCpD,undef,hrr,h1,hl,ho1,h5',hF,go_sem];try simp only[hrr,h1,hl,ho1,h5',hF,td,reduceCtorEq]
  all_goals first|done|exact h1
 have h5':¬((helpF ps b).length:Int)>3:=by omega
 rcases ho with ho|⟨ho,_⟩
 case inr=>
  have hF:=best_full hrr (.inl ho);have h4:(o.length:Int)>4:=by omega
  simp only[↓hcsBsX,entRgt,entHlp,entEnd,entLsP,entCiF,entCpF,entBst,entPow,entCop,entCiD,entCpD,undef,hrr,h1,hl,ho1,h5',h4,hF,go_sem];try simp only[hrr,h1,hl,ho1,h5',h4,hF,td,reduceCtorEq]
  all_goals first|done|exact h1
 obtain rfl:=List.eq_nil_of_length_eq_zero ho;obtain ⟨x,F,hS,hF⟩:=best_ok hrr (fun z=>z.elim (by simp) h5);rw[keep_eq] at hF;have hHx:∀p∈helpF ps b,p.2.1.length≤16:=fun p hp=>hx p (mem_helpF.1 hp).1;have hfine:=scan_fine hS (help_fine hrr hx);rw[←look_scan] at hS;have hS:(leafR [] (helpF ps b) (endsR (N,A,C,Q,P,S1,S2,S3) (helpF ps b)) none,([]:List DCase))=(some x,F):=hS;rw[leafR_none] at hS;obtain ⟨hs,hH⟩:∃hs,helpF ps b=hs:=⟨_,rfl⟩;rw[hH] at h5 h5' hHx hS hfine;have hpw2:∀n:Nat,n≤(hs.length+1)^([]:List Int).length→n≤1000000:=fun n hn=>by rw[show (hs.length+1)^([]:List Int).length=1 from rfl] at hn;omega
 have n14:¬((0:Nat):Int)>4:=by decide
 simp only[↓hcsBsX,entRgt,entHlp,entEnd,entLsP,entCiF,entCpF,entBst,entPow,entCop,entCiD,entCpD,undef,hrr,h1,hl,h5',hH,n14,go_sem];try simp only[hrr,h1,hl,h5',hH,n14,td,reduceCtorEq]
 refine ⟨h1,?_⟩;refine XW_top (XW_nilb 26 12 60 Z24 rfl rfl (XW_of ?_));dsimp only[z33,Z1,Z23,Z5,Za,Zb,Zc,Ze,Zf,Zi];simp only[↓hcsBsX,entRgt,entHlp,entEnd,entLsP,entCiF,entCpF,entBst,entPow,entCop,entCiD,entCpD,undef,go_sem];refine XW_top (XW_frz 1 32 rfl rfl (XW_of ?_));dsimp only;have n01:(((0:Nat):Int)==((0:Nat):Int))=true:=rfl;simp only[↓hcsBsX,entRgt,entHlp,entEnd,entLsP,entCiF,entCpF,entBst,entPow,entCop,entCiD,entCpD,undef,n01,go_sem];try simp only[n01,td,reduceCtorEq]
 have hHl:∀p∈hs,p.2.1.length≤16:=hHx;have nl0:(0:Nat)≤1000:=by decide
 refine XW_for 2000 z33_0d [0,1,2,3,26,27,29] Nat (fun i=>[(30,.val Z1 (i:Int)),(6,.val Z1 (endsR (N,A,C,Q,P,S1,S2,S3) (hs.take i)))]) (fun _=>[]) (fun i=>i≤hs.length) (fun i=>hs.length-i) 0 ?_ ?_ ?_
 ·dsimp only[z33_0d];simp only[oy,go_sem];first|done|exact ⟨rfl,rfl⟩|rfl
 ·exact Nat.zero_le _
 intro i hi;dsimp only[z33_0,z33_0d];by_cases hi':i<hs.length
 case pos=>
  have wi:IntKind.i64.wrap ((i:Int)+1)=((i+1:Nat):Int):=i64_in _ (by omega);have hpi:=hHl (hs.getD i dPln) (by simp[List.getD,hi']);have he1:=endsR_at (w:=(N,A,C,Q,P,S1,S2,S3)) hi';have he2:=endsR_rng (N,A,C,Q,P,S1,S2,S3) (hs.take (i+1));rw[List.length_take] at he2;dsimp only[dPln] at hpi he1;obtain ⟨⟨pc,pss,pL,pG⟩,hPi⟩:∃p:DPlan,hs.getD i (0,[],[],[])=p:=⟨_,rfl⟩;rw[hPi] at hpi he1;have hp24:pss.length≤24:=Nat.le_trans hpi (by decide);have we:IntKind.i64.wrap (endsR (N,A,C,Q,P,S1,S2,S3) (hs.take i)+(endP (N,A,C,Q,P,S1,S2,S3) (pc,pss,pL,pG)).1)=endsR (N,A,C,Q,P,S1,S2,S3) (hs.take (i+1)):=by
   rw[←he1];exact i64_in _ (by omega)
  simp only[↓hcsBsX,entRgt,entHlp,entEnd,entLsP,entCiF,entCpF,entBst,entPow,entCop,entCiD,entCpD,undef,hi',hPi,hp24,wi,we,oy,go_sem];try simp only[hi',hPi,hp24,wi,we,oy,td,reduceCtorEq]
  exact ⟨i+1,by omega,hi',rfl,rfl⟩
 have hi2:i=hs.length:=by omega
 rw[hi2,List.take_length];rw[hi2] at hi';clear hi hi2;have hPm:hs.length≤1000000:=by omega
 simp only[↓hcsBsX,↓hdBsX,entRgt,entHlp,entEnd,entLsP,entCiF,entCpF,entBst,entPow,entCop,entCiD,entCpD,undef,hi',hPm,nl0,oy,go_sem];try simp only[hi',hPm,nl0,oy,td,reduceCtorEq]
 obtain ⟨e1,rfl⟩:=Prod.mk.inj hS;obtain rfl:=Option.some.inj e1;obtain ⟨⟨g1,g2⟩,g3,g4,g5⟩:=hfine;dsimp only at g1 g2 g3;refine XW_top (XW_leq (rest38 (N:=N) (A:=A) (C:=C) (Q:=Q) (P:=P) (S1:=S1) (S2:=S2) (S3:=S3) (xl:=hs) (x0:=([]:List Int)) (xn:=endsR (N,A,C,Q,P,S1,S2,S3) hs) (o:=([]:List Int)) (hs:=hs) (F:=([]:List DCase)) (b:=b) (ps:=ps) g1 ho1 g4 (hpw2 _ g5) (by rw[g2];omega) (fun p hp=>⟨Nat.le_trans (g3 p hp).lens.1 (Nat.le_of_ble_eq_true rfl),Nat.le_trans (g3 p hp).lens.2.1 (Nat.le_of_ble_eq_true rfl),Nat.le_trans (g3 p hp).lens.2.2 (Nat.le_of_ble_eq_true rfl)⟩) (by rw[hF])) ?_);simp only[le',avle,oy,go_sem]
end T
end Go.Proofs.YtpocfbfmjippnaaGreat
end
