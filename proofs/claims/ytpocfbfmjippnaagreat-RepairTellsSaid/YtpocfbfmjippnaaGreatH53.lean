/- Parts of the proof of the law; no condition. -/
import Derived.Test.YtpocfbfmjippnaaGreatH46
set_option linter.all false
section
namespace Go.Proofs.YtpocfbfmjippnaaGreat
open Go.RowKit Go.IntWalk
namespace T
set_option pp.deepTerms true
set_option pp.maxSteps 1000000
def entBs1:Ent:={ entBsX with pre:=fun x=>(List.length (α:=DPlan) x.2.1≤1000∧List.length (α:=Int) x.2.2.2.1=1)∧∀p∈(x.2.1:List DPlan),p.2.1.length≤16 }
set_option maxHeartbeats 4000000 in
theorem conBs1:Con Tryz.prog entBs1:=by
 refine con_is (C:=csBsX) z9 (by kernel_rfl) (by simp[csBsX,conRgt,conHlp,conEnd,conLsP,conCiF,conCpF,conBst,conPow,conCop,conCiD,conCpD]) fun x hx hf=>?_;obtain ⟨⟨(N:Int),(A:List DArc),(C:List DCar),(Q:List DReq),(P:List DPair),(S1:Int),(S2:Int),(S3:Int)⟩,(ps:List DPlan),(b:Int),(o:List Int),_⟩:=x;obtain ⟨⟨hl,ho⟩,hx⟩:(ps.length≤1000∧o.length=1)∧∀p∈ps,p.2.1.length≤16:=hx;obtain ⟨q,rfl⟩:∃q,o=[q]:=List.length_eq_one_iff.1 ho;have h1:∀p∈ps,p.2.1.length≤24:=fun p hp=>by have:=hx p hp;omega
 have ho1:([q]:List Int).length≤1000:=Nat.le_of_ble_eq_true rfl;dsimp only[entBs1,entBsX,z9,Z1,Z21,Z22,Z24,Z26,Z27,Z5,Za,Zb,Zc,Ze,Zh];cases hrr:rightR38 (N,A,C,Q,P,S1,S2,S3) ps b [q] with
 |false=>
  have hF:=best_bad hrr;simp only[↓hcsBsX,entRgt,entHlp,entEnd,entLsP,entCiF,entCpF,entBst,entPow,entCop,entCiD,entCpD,undef,hrr,h1,hl,hF,go_sem];try simp only[hrr,h1,hl,hF,td,reduceCtorEq]
  all_goals first|done|exact h1
 |true=>
 by_cases h5:3<(helpF ps b).length
 ·have hF:=best_full hrr (.inr h5);have h5':((helpF ps b).length:Int)>3:=by omega
  simp only[↓hcsBsX,entRgt,entHlp,entEnd,entLsP,entCiF,entCpF,entBst,entPow,entCop,entCiD,entCpD,undef,hrr,h1,hl,h5',hF,go_sem];try simp only[hrr,h1,hl,h5',hF,td,reduceCtorEq]
  all_goals first|done|exact h1
 have h5':¬((helpF ps b).length:Int)>3:=by omega
 obtain ⟨x,F,hS,hF⟩:=best_ok hrr (fun z=>z.elim (by simp) h5);rw[keep_eq] at hF;have hHx:∀p∈helpF ps b,p.2.1.length≤16:=fun p hp=>hx p (mem_helpF.1 hp).1;have hfine:=scan_fine hS (help_fine hrr hx);rw[←look_scan] at hS;have hlk:lookF (N,A,C,Q,P,S1,S2,S3) (helpF ps b).length [q] [] (helpF ps b) (none,[])=lookF (N,A,C,Q,P,S1,S2,S3) (helpF ps b).length [] [-1] (helpF ps b) ((List.range (helpF ps b).length).foldl (kidF (N,A,C,Q,P,S1,S2,S3) (helpF ps b).length (lookF (N,A,C,Q,P,S1,S2,S3) (helpF ps b).length []) [] q 0 (helpF ps b)) (none,[])):=rfl;rw[hlk] at hS;obtain ⟨hs,hH⟩:∃hs,helpF ps b=hs:=⟨_,rfl⟩;rw[hH] at h5 h5' hHx hS hfine;have hpw2:∀n:Nat,n≤(hs.length+1)^[q].length→n≤1000000:=fun n hn=>by rw[show (hs.length+1)^[q].length=hs.length+1 from Nat.pow_one _] at hn;omega
 have n14:¬((1:Nat):Int)>4:=by decide
 simp only[↓hcsBsX,entRgt,entHlp,entEnd,entLsP,entCiF,entCpF,entBst,entPow,entCop,entCiD,entCpD,undef,hrr,h1,hl,h5',hH,n14,go_sem];try simp only[hrr,h1,hl,h5',hH,n14,td,reduceCtorEq]
 refine ⟨h1,?_⟩;refine XW_top (XW_nilb 26 12 60 Z24 rfl rfl (XW_of ?_));dsimp only[z33,Z1,Z23,Z5,Za,Zb,Zc,Ze,Zf,Zi];simp only[↓hcsBsX,entRgt,entHlp,entEnd,entLsP,entCiF,entCpF,entBst,entPow,entCop,entCiD,entCpD,undef,go_sem];refine XW_top (XW_frz 1 32 rfl rfl (XW_of ?_));dsimp only;have n01:(((0:Nat):Int)==((1:Nat):Int))=false:=rfl;simp only[↓hcsBsX,entRgt,entHlp,entEnd,entLsP,entCiF,entCpF,entBst,entPow,entCop,entCiD,entCpD,undef,n01,go_sem];try simp only[n01,td,reduceCtorEq]
 obtain ⟨B,b0,b1,b2⟩:=kid_at (N,A,C,Q,P,S1,S2,S3) hs.length (lookF (N,A,C,Q,P,S1,S2,S3) hs.length []) [] q 0 hs (none,[]);rw[b2] at hS;refine XW_for 1000 z33_1d [0,1,2,3,27] Nat (fun k=>[(94,.val Z1 (k:Int))]) (fun k=>[(26,.box 78 [.val Z1 N,.val Z13 A,.val Z20 C,.val Z7 Q,.val Z16 P,.val Z1 S1,.val Z1 S2,.val Z1 S3,.val Z5 [q],optAV (.int .i64) (toO (B k).1),optAV Z22 (plO (B k).1),.val Z1 (enO (B k).1),.own 29]),(29,.row 60 Z24 (B k).2)]) (fun k=>k≤hs.length∧OkA 1 (B k)∧(B k).2.length≤k) (fun k=>hs.length-k) 0 ?_ ?_ ?_
 ·dsimp only[z33_1d];simp only[b0,oy,go_sem];first|done|exact ⟨rfl,rfl⟩|rfl
 ·exact ⟨Nat.zero_le _,by rw[b0];exact OkA.zero 1,by rw[b0];exact Nat.zero_le _⟩
 rintro k ⟨hk,hok,hkl⟩;dsimp only[z33_1,z33_1d,w33,z69,Z1,Z21,Z22,Z5,Za,Zb,Zc,Ze,Zg,Zh];by_cases hk':k<hs.length
 case neg=>
  obtain rfl:k=hs.length:=by omega
  have n11:(((1:Nat):Int)==((1:Nat):Int))=true:=rfl;have hkI:¬(hs.length:Int)<(hs.length:Int):=by omega
  simp only[↓hcsBsX,entRgt,entHlp,entEnd,entLsP,entCiF,entCpF,entBst,entPow,entCop,entCiD,entCpD,undef,hk',hkI,oy,go_sem];try simp only[hk',hkI,oy,td,reduceCtorEq]
  refine XW_top (XW_of ?_);dsimp only[w33_t];simp only[↓hcsBsX,entRgt,entHlp,entEnd,entLsP,entCiF,entCpF,entBst,entPow,entCop,entCiD,entCpD,undef,oy,go_sem];refine XW_top (XW_frz 1 1005 rfl rfl (XW_of ?_));dsimp only;simp only[↓hcsBsX,entRgt,entHlp,entEnd,entLsP,entCiF,entCpF,entBst,entPow,entCop,entCiD,entCpD,undef,n11,oy,go_sem];try simp only[n11,oy,td,reduceCtorEq]
  have hHl:∀p∈hs,p.2.1.length≤16:=hHx;refine XW_for 2000 w33_0d [0,1,2,3,26,27,29] Nat (fun i=>[(30,.val Z1 (i:Int)),(6,.val Z1 (endsR (N,A,C,Q,P,S1,S2,S3) (hs.take i)))]) (fun _=>[]) (fun i=>i≤hs.length) (fun i=>hs.length-i) 0 ?_ ?_ ?_
  ·dsimp only[w33_0d];simp only[oy,go_sem];first|done|exact ⟨rfl,rfl⟩|rfl
  ·exact Nat.zero_le _
  intro i hi;dsimp only[w33_0,w33_0d];by_cases hi':i<hs.length
  case pos=>
   have wi:IntKind.i64.wrap ((i:Int)+1)=((i+1:Nat):Int):=i64_in _ (by omega);have hpi:=hHl (hs.getD i dPln) (by simp[List.getD,hi']);have he1:=endsR_at (w:=(N,A,C,Q,P,S1,S2,S3)) hi';have he2:=endsR_rng (N,A,C,Q,P,S1,S2,S3) (hs.take (i+1));rw[List.length_take] at he2;dsimp only[dPln] at hpi he1;obtain ⟨⟨pc,pss,pL,pG⟩,hPi⟩:∃p:DPlan,hs.getD i (0,[],[],[])=p:=⟨_,rfl⟩;rw[hPi] at hpi he1;have hp24:pss.length≤24:=Nat.le_trans hpi (by decide);have we:IntKind.i64.wrap (endsR (N,A,C,Q,P,S1,S2,S3) (hs.take i)+(endP (N,A,C,Q,P,S1,S2,S3) (pc,pss,pL,pG)).1)=endsR (N,A,C,Q,P,S1,S2,S3) (hs.take (i+1)):=by
    rw[←he1];exact i64_in _ (by omega)
   simp only[↓hcsBsX,entRgt,entHlp,entEnd,entLsP,entCiF,entCpF,entBst,entPow,entCop,entCiD,entCpD,undef,hi',hPi,hp24,wi,we,oy,go_sem];try simp only[hi',hPi,hp24,wi,we,oy,td,reduceCtorEq]
   exact ⟨i+1,by omega,hi',rfl,rfl⟩
  have hi2:i=hs.length:=by omega
  rw[hi2,List.take_length];rw[hi2] at hi';clear hi hi2;have hPm:hs.length≤1000000:=by omega
  have hS:(leafR [-1] hs (endsR (N,A,C,Q,P,S1,S2,S3) hs) (B hs.length).1,(B hs.length).2)=(some x,F):=hS;have nl1:(1:Nat)≤1000:=by decide
  have n00:¬(0:Int)<0:=by decide
  cases hBk:(B hs.length).1 with
  |none=>
   rw[hBk,leafR_none] at hS;simp only[↓hcsBsX,↓hdBsX,entRgt,entHlp,entEnd,entLsP,entCiF,entCpF,entBst,entPow,entCop,entCiD,entCpD,undef,hi',hBk,hPm,oy,go_sem];try simp only[hi',hBk,hPm,oy,td,reduceCtorEq]
   obtain ⟨e1,rfl⟩:=Prod.mk.inj hS;obtain rfl:=Option.some.inj e1;obtain ⟨⟨g1,g2⟩,g3,g4,g5⟩:=hfine;dsimp only at g1 g2 g3;refine XW_top (XW_leq (rest38 (N:=N) (A:=A) (C:=C) (Q:=Q) (P:=P) (S1:=S1) (S2:=S2) (S3:=S3) (xl:=hs) (x0:=[-1]) (xn:=endsR (N,A,C,Q,P,S1,S2,S3) hs) (o:=[q]) (hs:=hs) (F:=(B hs.length).2) (b:=b) (ps:=ps) g1 ho1 g4 (hpw2 _ g5) (by rw[g2];omega) (fun p hp=>⟨Nat.le_trans (g3 p hp).lens.1 (Nat.le_of_ble_eq_true rfl),Nat.le_trans (g3 p hp).lens.2.1 (Nat.le_of_ble_eq_true rfl),Nat.le_trans (g3 p hp).lens.2.2 (Nat.le_of_ble_eq_true rfl)⟩) (by rw[hF])) ?_);simp only[le',avle,oy,go_sem]
  |some y=>
  obtain ⟨y0,yl,yn⟩:=y;have hy:y0.length=1:=hok.best _ hBk;have hyn:y0≠[]:=fun z=>by rw[z] at hy;cases hy
  rw[hBk] at hS;obtain ⟨z,hz⟩:∃z,lessP [-1] y0=z:=⟨_,rfl⟩;by_cases c1:z<0
  ·rw[leafR_yes (.inl (by rw[hz];exact c1))] at hS;simp only[↓hcsBsX,↓hdBsX,entRgt,entHlp,entEnd,entLsP,entCiF,entCpF,entBst,entPow,entCop,entCiD,entCpD,undef,hi',hBk,hPm,hy,hyn,hz,c1,nl1,oy,go_sem];try simp only[hi',hBk,hPm,hy,hyn,hz,c1,nl1,oy,td,reduceCtorEq]
   obtain ⟨e1,rfl⟩:=Prod.mk.inj hS;obtain rfl:=Option.some.inj e1;obtain ⟨⟨g1,g2⟩,g3,g4,g5⟩:=hfine;dsimp only at g1 g2 g3;refine XW_top (XW_leq (rest38 (N:=N) (A:=A) (C:=C) (Q:=Q) (P:=P) (S1:=S1) (S2:=S2) (S3:=S3) (xl:=hs) (x0:=[-1]) (xn:=endsR (N,A,C,Q,P,S1,S2,S3) hs) (o:=[q]) (hs:=hs) (F:=(B hs.length).2) (b:=b) (ps:=ps) g1 ho1 g4 (hpw2 _ g5) (by rw[g2];omega) (fun p hp=>⟨Nat.le_trans (g3 p hp).lens.1 (Nat.le_of_ble_eq_true rfl),Nat.le_trans (g3 p hp).lens.2.1 (Nat.le_of_ble_eq_true rfl),Nat.le_trans (g3 p hp).lens.2.2 (Nat.le_of_ble_eq_true rfl)⟩) (by rw[hF])) ?_);simp only[le',avle,oy,go_sem]
  by_cases c2:z=0
  ·subst c2;by_cases c3:endsR (N,A,C,Q,P,S1,S2,S3) hs<yn
   ·rw[leafR_yes (.inr ⟨hz,c3⟩)] at hS;simp only[↓hcsBsX,↓hdBsX,entRgt,entHlp,entEnd,entLsP,entCiF,entCpF,entBst,entPow,entCop,entCiD,entCpD,undef,hi',hBk,hPm,hy,hyn,hz,c3,n00,nl1,oy,go_sem];try simp only[hi',hBk,hPm,hy,hyn,hz,c3,n00,nl1,oy,td,reduceCtorEq]
    obtain ⟨e1,rfl⟩:=Prod.mk.inj hS;obtain rfl:=Option.some.inj e1;obtain ⟨⟨g1,g2⟩,g3,g4,g5⟩:=hfine;dsimp only at g1 g2 g3;refine XW_top (XW_leq (rest38 (N:=N) (A:=A) (C:=C) (Q:=Q) (P:=P) (S1:=S1) (S2:=S2) (S3:=S3) (xl:=hs) (x0:=[-1]) (xn:=endsR (N,A,C,Q,P,S1,S2,S3) hs) (o:=[q]) (hs:=hs) (F:=(B hs.length).2) (b:=b) (ps:=ps) g1 ho1 g4 (hpw2 _ g5) (by rw[g2];omega) (fun p hp=>⟨Nat.le_trans (g3 p hp).lens.1 (Nat.le_of_ble_eq_true rfl),Nat.le_trans (g3 p hp).lens.2.1 (Nat.le_of_ble_eq_true rfl),Nat.le_trans (g3 p hp).lens.2.2 (Nat.le_of_ble_eq_true rfl)⟩) (by rw[hF])) ?_);simp only[le',avle,oy,go_sem]
   ·rw[leafR_no (by rw[hz];exact c1) (fun w=>c3 w.2)] at hS;simp only[↓hcsBsX,↓hdBsX,entRgt,entHlp,entEnd,entLsP,entCiF,entCpF,entBst,entPow,entCop,entCiD,entCpD,undef,hi',hBk,hPm,hy,hyn,hz,c3,n00,nl1,oy,go_sem];try simp only[hi',hBk,hPm,hy,hyn,hz,c3,n00,nl1,oy,td,reduceCtorEq]
    obtain ⟨e1,rfl⟩:=Prod.mk.inj hS;obtain rfl:=Option.some.inj e1;obtain ⟨⟨g1,g2⟩,g3,g4,g5⟩:=hfine;dsimp only at g1 g2 g3;refine XW_top (XW_leq (rest38 (N:=N) (A:=A) (C:=C) (Q:=Q) (P:=P) (S1:=S1) (S2:=S2) (S3:=S3) (xl:=yl) (x0:=y0) (xn:=yn) (o:=[q]) (hs:=hs) (F:=(B hs.length).2) (b:=b) (ps:=ps) g1 ho1 g4 (hpw2 _ g5) (by rw[g2];omega) (fun p hp=>⟨Nat.le_trans (g3 p hp).lens.1 (Nat.le_of_ble_eq_true rfl),Nat.le_trans (g3 p hp).lens.2.1 (Nat.le_of_ble_eq_true rfl),Nat.le_trans (g3 p hp).lens.2.2 (Nat.le_of_ble_eq_true rfl)⟩) (by rw[hF])) ?_);simp only[le',avle,oy,go_sem]
  ·rw[leafR_no (by rw[hz];exact c1) (fun w=>c2 (hz.symm.trans w.1))] at hS;simp only[↓hcsBsX,↓hdBsX,entRgt,entHlp,entEnd,entLsP,entCiF,entCpF,entBst,entPow,entCop,entCiD,entCpD,undef,hi',hBk,hPm,hy,hyn,hz,c1,c2,nl1,oy,go_sem];try simp only[hi',hBk,hPm,hy,hyn,hz,c1,c2,nl1,oy,td,reduceCtorEq]
   obtain ⟨e1,rfl⟩:=Prod.mk.inj hS;obtain rfl:=Option.some.inj e1;obtain ⟨⟨g1,g2⟩,g3,g4,g5⟩:=hfine;dsimp only at g1 g2 g3;refine XW_top (XW_leq (rest38 (N:=N) (A:=A) (C:=C) (Q:=Q) (P:=P) (S1:=S1) (S2:=S2) (S3:=S3) (xl:=yl) (x0:=y0) (xn:=yn) (o:=[q]) (hs:=hs) (F:=(B hs.length).2) (b:=b) (ps:=ps) g1 ho1 g4 (hpw2 _ g5) (by rw[g2];omega) (fun p hp=>⟨Nat.le_trans (g3 p hp).lens.1 (Nat.le_of_ble_eq_true rfl),Nat.le_trans (g3 p hp).lens.2.1 (Nat.le_of_ble_eq_true rfl),Nat.le_trans (g3 p hp).lens.2.2 (Nat.le_of_ble_eq_true rfl)⟩) (by rw[hF])) ?_);simp only[le',avle,oy,go_sem]
 have w1:IntKind.i64.wrap ((k:Int)+1)=((k+1:Nat):Int):=i64_in _ (by omega);have hpk:=hHx (hs.getD k dPln) (by simp[List.getD,hk']);have b1:=b1 k;unfold kidF at b1;have hbl:=bst_len (w:=(N,A,C,Q,P,S1,S2,S3)) (p:=hs.getD k dPln) (q:=q);dsimp only[dPln] at hpk b1 hbl;obtain ⟨⟨c,ss,L,G⟩,hP⟩:∃p:DPlan,hs.getD k (0,[],[],[])=p:=⟨_,rfl⟩;rw[hP] at hpk b1 hbl;dsimp only at hpk;have hp20:ss.length≤20:=by omega
 unfold bstP at b1 hbl;obtain ⟨⟨⟨x1,x2,x3,x4⟩,y1,y2,y3,e⟩,hB⟩:∃X:DPlan×Int×Int×List DPlace×Int,bestF (N,A,C,Q,P,S1,S2,S3) (c,ss,L,G) q=X:=⟨_,rfl⟩;rw[hB] at b1 hbl;dsimp only at b1 hbl;have wh:IntKind.i64.wrap ((hs.length:Int)+1)=((hs.length+1:Nat):Int):=i64_in _ (by omega);have w11:IntKind.i64.wrap (((1:Nat):Int)-((1:Nat):Int))=0:=by decide
 have w10:IntKind.i64.wrap (((1:Nat):Int)-1)=0:=by decide
 have wm1:IntKind.i64.wrap (0-1)= -1:=by decide
 have n11:(((1:Nat):Int)==((1:Nat):Int))=true:=rfl;have hpw:∀n,powF n 0=1:=fun n=>rfl;have hp0:(0:Int)≤((hs.length+1:Nat):Int):=by omega
 have hp4:((hs.length+1:Nat):Int)≤4:=by omega
 have le0:(0:Int)≤0:=by decide
 have le04:(0:Int)≤4:=by decide
 by_cases he:e=0
 case neg=>
  rw[if_pos he] at b1;simp only[↓hcsBsX,entRgt,entHlp,entEnd,entLsP,entCiF,entCpF,entBst,entPow,entCop,entCiD,entCpD,undef,hk',hP,hp20,hB,he,wh,w11,w10,hpw,hp0,hp4,le0,le04,Int.toNat_zero,oy,go_sem];try simp only[hk',hP,hp20,hB,he,wh,w11,w10,hpw,hp0,hp4,le0,le04,Int.toNat_zero,oy,td,reduceCtorEq]
  refine ⟨Nat.zero_lt_one,?_⟩;refine XW_for 2000 z69_0d [0,1,2,3,27,1011] Nat (fun t=>[(25,.val Z1 (t:Int))]) (fun t=>[(26,.box 78 [.val Z1 N,.val Z13 A,.val Z20 C,.val Z7 Q,.val Z16 P,.val Z1 S1,.val Z1 S2,.val Z1 S3,.val Z5 [q],optAV (.int .i64) (toO ((B k).1,(B k).2++([([(k:Int)],0)]:List DCase).take t).1),optAV Z22 (plO ((B k).1,(B k).2++([([(k:Int)],0)]:List DCase).take t).1),.val Z1 (enO ((B k).1,(B k).2++([([(k:Int)],0)]:List DCase).take t).1),.own 29]),(29,.row 60 Z24 ((B k).1,(B k).2++([([(k:Int)],0)]:List DCase).take t).2)]) (fun t=>t≤1) (fun t=>1-t) 0 ?_ ?_ ?_
  ·dsimp only[z69_0d];simp only[List.take_zero,List.append_nil,oy,go_sem];first|done|exact ⟨rfl,rfl⟩|rfl
  ·exact Nat.zero_le _
  intro t ht;dsimp only[z69_0,z69_0d];by_cases ht':t<1
  case neg=>
   obtain rfl:t=1:=by omega
   have c1:¬((1:Nat):Int)<1:=by decide
   simp only[↓hcsBsX,entRgt,entHlp,entEnd,entLsP,entCiF,entCpF,entBst,entPow,entCop,entCiD,entCpD,undef,c1,w1,oy,go_sem];try simp only[c1,w1,oy,td,reduceCtorEq]
   have b2':B (k+1)=((B k).1,(B k).2++[([(k:Int)],0)]):=b1;refine ⟨k+1,by omega,⟨by omega,by rw[b2'];exact hok.fail hs.length 0 (to:=[]) (k:Int) 0 rfl,by rw[b2',List.length_append,List.length_singleton];omega⟩,rfl,?_⟩;rw[b2'];simp only[oy,td,reduceCtorEq];first|done|rfl
  obtain rfl:t=0:=by omega
  have c0:((0:Nat):Int)<1:=by decide
  have hb32:((B k).2.length+1)*32≤140737488355328:=by omega
  simp only[↓hcsBsX,entRgt,entHlp,entEnd,entLsP,entCiF,entCpF,entBst,entPow,entCop,entCiD,entCpD,undef,c0,w11,wm1,oy,go_sem];try simp only[c0,w11,wm1,oy,td,reduceCtorEq]
  refine XW_for 3000 z69_1d [0,1,2,3,26,27,29,1011,2004] Nat (fun _=>[(9,.val Z1 (-1)),(8,.own 2004)]) (fun _=>[]) (fun _=>True) (fun _=>0) 0 ?_ ?_ ?_
  ·dsimp only[z69_1d];simp only[oy,go_sem];first|done|exact ⟨rfl,rfl⟩|rfl
  ·trivial
  intro _ _;dsimp only[z69_1,z69_1d];have g1:¬(-1:Int)≥0:=by decide
  have t0:IntKind.i64.wrap (((0:Nat):Int)+1)=((1:Nat):Int):=by decide
  simp only[↓hcsBsX,entRgt,entHlp,entEnd,entLsP,entCiF,entCpF,entBst,entPow,entCop,entCiD,entCpD,undef,g1,t0,hb32,oy,go_sem];try simp only[g1,t0,hb32,oy,td,reduceCtorEq]
  exact ⟨1,by decide,Nat.le_refl _,rfl,rfl⟩
 subst he;rw[if_neg (by decide)] at b1;have b1:B (k+1)=(leafR [(k:Int)] (hs.set k (x1,x2,x3,x4)) (endsR (N,A,C,Q,P,S1,S2,S3) (hs.set k (x1,x2,x3,x4))) (B k).1,(B k).2):=b1;simp only[↓hcsBsX,entRgt,entHlp,entEnd,entLsP,entCiF,entCpF,entBst,entPow,entCop,entCiD,entCpD,undef,hk',hP,hp20,hB,oy,go_sem];try simp only[hk',hP,hp20,hB,oy,td,reduceCtorEq]
 refine ⟨Nat.zero_lt_one,by omega,?_⟩;obtain ⟨P',hP'⟩:∃P':List DPlan,hs.set k (x1,x2,x3,x4)=P':=⟨_,rfl⟩;have hP'l:P'.length=hs.length:=by rw[←hP',List.length_set]
 rw[hP'] at b1⊢;refine XW_top (XW_frz 19 1042 rfl rfl (XW_of ?_));dsimp only;simp only[↓hcsBsX,entRgt,entHlp,entEnd,entLsP,entCiF,entCpF,entBst,entPow,entCop,entCiD,entCpD,undef,oy,go_sem];refine XW_top (XW_of ?_);dsimp only[w33_t];simp only[↓hcsBsX,entRgt,entHlp,entEnd,entLsP,entCiF,entCpF,entBst,entPow,entCop,entCiD,entCpD,undef,oy,go_sem];refine XW_top (XW_frz 1 1011 rfl rfl (XW_of ?_));dsimp only;simp only[↓hcsBsX,entRgt,entHlp,entEnd,entLsP,entCiF,entCpF,entBst,entPow,entCop,entCiD,entCpD,undef,n11,oy,go_sem];try simp only[n11,oy,td,reduceCtorEq]
 have hx2:x2.length=ss.length+2:=(hbl rfl).1;have hPl:∀p∈P',p.2.1.length≤18:=by rw[←hP'];exact set_lens hHx (show x2.length≤16+2 by omega)
 have hlf:OkA 1 (B (k+1)):=by rw[b1];exact hok.leaf rfl _ _
 have hll:(B (k+1)).2.length≤k+1:=by rw[b1];show (B k).2.length≤k+1;omega
 refine XW_for 2000 w33_0d [0,1,2,3,26,27,29] Nat (fun i=>[(30,.val Z1 (i:Int)),(6,.val Z1 (endsR (N,A,C,Q,P,S1,S2,S3) (P'.take i)))]) (fun _=>[]) (fun i=>i≤P'.length) (fun i=>P'.length-i) 0 ?_ ?_ ?_
 ·dsimp only[w33_0d];simp only[oy,go_sem];first|done|exact ⟨rfl,rfl⟩|rfl
 ·exact Nat.zero_le _
 intro i hi;dsimp only[w33_0,w33_0d];by_cases hi':i<P'.length
 case pos=>
  have wi:IntKind.i64.wrap ((i:Int)+1)=((i+1:Nat):Int):=i64_in _ (by omega);have hpi:=hPl (P'.getD i dPln) (by simp[List.getD,hi']);have he1:=endsR_at (w:=(N,A,C,Q,P,S1,S2,S3)) hi';have he2:=endsR_rng (N,A,C,Q,P,S1,S2,S3) (P'.take (i+1));rw[List.length_take] at he2;dsimp only[dPln] at hpi he1;obtain ⟨⟨pc,pss,pL,pG⟩,hPi⟩:∃p:DPlan,P'.getD i (0,[],[],[])=p:=⟨_,rfl⟩;rw[hPi] at hpi he1;have hp24:pss.length≤24:=Nat.le_trans hpi (by decide);have we:IntKind.i64.wrap (endsR (N,A,C,Q,P,S1,S2,S3) (P'.take i)+(endP (N,A,C,Q,P,S1,S2,S3) (pc,pss,pL,pG)).1)=endsR (N,A,C,Q,P,S1,S2,S3) (P'.take (i+1)):=by
   rw[←he1];exact i64_in _ (by omega)
  simp only[↓hcsBsX,entRgt,entHlp,entEnd,entLsP,entCiF,entCpF,entBst,entPow,entCop,entCiD,entCpD,undef,hi',hPi,hp24,wi,we,oy,go_sem];try simp only[hi',hPi,hp24,wi,we,oy,td,reduceCtorEq]
  exact ⟨i+1,by omega,hi',rfl,rfl⟩
 have hi2:i=P'.length:=by omega
 rw[hi2,List.take_length];rw[hi2] at hi';clear hi hi2;have hPm:P'.length≤1000000:=by omega
 have nl1:(1:Nat)≤1000:=by decide
 have n00:¬(0:Int)<0:=by decide
 cases hBk:(B k).1 with
 |none=>
  rw[hBk,leafR_none] at b1;simp only[↓hcsBsX,↓hdBsX,entRgt,entHlp,entEnd,entLsP,entCiF,entCpF,entBst,entPow,entCop,entCiD,entCpD,undef,hi',hBk,hPm,w1,oy,go_sem];try simp only[hi',hBk,hPm,w1,oy,td,reduceCtorEq]
  refine ⟨k+1,by omega,⟨hk',hlf,hll⟩,rfl,?_⟩;rw[b1];simp only[oy,go_sem];first|done|exact ⟨⟨rfl,rfl⟩,rfl⟩|rfl
 |some y=>
 obtain ⟨y0,yl,yn⟩:=y;have hy:y0.length=1:=hok.best _ hBk;have hyn:y0≠[]:=fun z=>by rw[z] at hy;cases hy
 rw[hBk] at b1;obtain ⟨z,hz⟩:∃z,lessP [(k:Int)] y0=z:=⟨_,rfl⟩;by_cases c1:z<0
 ·rw[leafR_yes (.inl (by rw[hz];exact c1))] at b1;simp only[↓hcsBsX,↓hdBsX,entRgt,entHlp,entEnd,entLsP,entCiF,entCpF,entBst,entPow,entCop,entCiD,entCpD,undef,hi',hBk,hPm,hy,hyn,hz,c1,nl1,w1,oy,go_sem];try simp only[hi',hBk,hPm,hy,hyn,hz,c1,nl1,w1,oy,td,reduceCtorEq]
  refine ⟨k+1,by omega,⟨hk',hlf,hll⟩,rfl,?_⟩;rw[b1];simp only[oy,go_sem];first|done|exact ⟨⟨rfl,rfl⟩,rfl⟩|rfl
 by_cases c2:z=0
 ·subst c2;by_cases c3:endsR (N,A,C,Q,P,S1,S2,S3) P'<yn
  ·rw[leafR_yes (.inr ⟨hz,c3⟩)] at b1;simp only[↓hcsBsX,↓hdBsX,entRgt,entHlp,entEnd,entLsP,entCiF,entCpF,entBst,entPow,entCop,entCiD,entCpD,undef,hi',hBk,hPm,hy,hyn,hz,c3,n00,nl1,w1,oy,go_sem];try simp only[hi',hBk,hPm,hy,hyn,hz,c3,n00,nl1,w1,oy,td,reduceCtorEq]
   refine ⟨k+1,by omega,⟨hk',hlf,hll⟩,rfl,?_⟩;rw[b1];simp only[oy,go_sem];first|done|exact ⟨⟨rfl,rfl⟩,rfl⟩|rfl
  ·rw[leafR_no (by rw[hz];exact c1) (fun w=>c3 w.2)] at b1;simp only[↓hcsBsX,↓hdBsX,entRgt,entHlp,entEnd,entLsP,entCiF,entCpF,entBst,entPow,entCop,entCiD,entCpD,undef,hi',hBk,hPm,hy,hyn,hz,c3,n00,nl1,w1,oy,go_sem];try simp only[hi',hBk,hPm,hy,hyn,hz,c3,n00,nl1,w1,oy,td,reduceCtorEq]
   refine ⟨k+1,by omega,⟨hk',hlf,hll⟩,rfl,?_⟩;rw[b1];simp only[oy,go_sem];first|done|exact ⟨⟨rfl,rfl⟩,rfl⟩|rfl
 ·rw[leafR_no (by rw[hz];exact c1) (fun w=>c2 (hz.symm.trans w.1))] at b1;simp only[↓hcsBsX,↓hdBsX,entRgt,entHlp,entEnd,entLsP,entCiF,entCpF,entBst,entPow,entCop,entCiD,entCpD,undef,hi',hBk,hPm,hy,hyn,hz,c1,c2,nl1,w1,oy,go_sem];try simp only[hi',hBk,hPm,hy,hyn,hz,c1,c2,nl1,w1,oy,td,reduceCtorEq]
  refine ⟨k+1,by omega,⟨hk',hlf,hll⟩,rfl,?_⟩;rw[b1];simp only[oy,go_sem];first|done|exact ⟨⟨rfl,rfl⟩,rfl⟩|rfl
end T
end Go.Proofs.YtpocfbfmjippnaaGreat
end
