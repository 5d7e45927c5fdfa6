/- Parts of the proof of the law; no condition. -/
import Derived.Test.YtpocfbfmjippnaaGreatG41
import Derived.Test.YtpocfbfmjippnaaGreatG49
set_option linter.all false
section
namespace Go.Proofs.YtpocfbfmjippnaaGreat
open Go.RowKit Go.IntWalk
namespace T
set_option pp.deepTerms true
set_option pp.maxSteps 1000000
def entBs0:Ent:={ entBsX with pre:=fun x=>(List.length (α:=DPlan) x.2.1≤1000∧(List.length (α:=Int) x.2.2.2.1=0∨4<List.length (α:=Int) x.2.2.2.1∧List.length (α:=Int) x.2.2.2.1≤1000))∧∀p∈(x.2.1:List DPlan),p.2.1.length≤16 }
set_option maxHeartbeats 4000000 in
theorem conBs0:Con Tryz.prog entBs0:=by
 refine con_is (C:=csBsX) z9 (by kernel_rfl) (by simp[csBsX,conRgt,conHlp,conEnd,conLsP,conCiF,conCpF,conBst,conPow,conCop,conCiD,conCpD]) fun x hx hf=>?_;obtain ⟨⟨(N:Int),(A:List DArc),(C:List DCar),(Q:List DReq),(P:List DPair),(S1:Int),(S2:Int),(S3:Int)⟩,(ps:List DPlan),(b:Int),(o:List Int),_⟩:=x;obtain ⟨⟨hl,ho⟩,hx⟩:(ps.length≤1000∧(o.length=0∨4<o.length∧o.length≤1000))∧∀p∈ps,p.2.1.length≤16:=hx;have h1:∀p∈ps,p.2.1.length≤24:=fun p hp=>by have:=hx p hp;omega
 have ho1:o.length≤1000:=by omega
 dsimp only[entBs0,entBsX,z9,Z1,Z21,Z22,Z24,Z26,Z27,Z5,Za,Zb,Zc,Ze,Zh];cases hrr:rightR38 (N,A,C,Q,P,S1,S2,S3) ps b o with
 |false=>
  have hF:=best_bad hrr;simp only[↓hcsBsX,entRgt,entHlp,entEnd,entLsP,entCiF,entCpF,entBst,entPow,entCop,entCiD,entCpD,undef,hrr,h1,hl,ho1,hF,go_sem];try simp only[hrr,h1,hl,ho1,hF,td,reduceCtorEq]
  all_goals first|done|exact h1
 |true=>
 by_cases h5:3<(helpF ps b).length
 ·have hF:=best_full hrr (.inr h5);have h5':((helpF ps b).length:Int)>3:=by omega
  simp only[↓hcsBsX,entRgt,entHlp,entEnd,entLsP,entCiF,entCpF,entBst,entPow,entCop,entCiD,entCpD,undef,hrr,h1,hl,ho1,h5',hF,go_sem];try simp only[hrr,h1,hl,ho1,h5',hF,td,reduceCtorEq]
  all_goals first|done|exact h1
 have h5':¬((helpF ps b).length:Int)>3:=by omega
 rcases ho with ho|⟨ho,_⟩
 case inr=>
  have hF:=best_full hrr (.inl ho);have h4:(o.length:Int)>4:=by omega
  simp only[↓hcsBsX,entRgt,entHlp,entEnd,entLsP,entCiF,entCpF,entBst,entPow,entCop,entCiD,entCpD,undef,hrr,h1,hl,ho1,h5',h4,hF,go_sem];try simp only[hrr,h1,hl,ho1,h5',h4,hF,td,reduceCtorEq]
  all_goals first|done|exact h1
 obtain rfl:=List.eq_nil_of_length_eq_zero ho;obtain ⟨x,F,hS,hF⟩:=best_ok hrr (fun z=>z.elim (by simp) h5);rw[keep_eq] at hF;have hHx:∀p∈helpF ps b,p.2.1.length≤16:=fun p hp=>hx p (mem_helpF.1 hp).1;have hfine:=scan_fine hS (help_fine hrr hx);rw[←look_scan] at hS;have hS:(leafR [] (helpF ps b) (endsR (N,A,C,Q,P,S1,S2,S3) (helpF ps b)) none,([]:List DCase))=(some x,F):=hS;rw[leafR_none] at hS;obtain ⟨hs,hH⟩:∃hs,helpF ps b=hs:=⟨_,rfl⟩;rw[hH] at h5 h5' hHx hS hfine;have hpw2:∀n:Nat,n≤(hs.length+1)^([]:List Int).length→n≤1000000:=fun n hn=>by rw[show (hs.length+1)^([]:List Int).length=1 from rfl] at hn;omega
 have n14:¬((0:Nat):Int)>4:=by decide
 simp only[↓hcsBsX,entRgt,entHlp,entEnd,entLsP,entCiF,entCpF,entBst,entPow,entCop,entCiD,entCpD,undef,hrr,h1,hl,h5',hH,n14,go_sem];try simp only[hrr,h1,hl,h5',hH,n14,td,reduceCtorEq]
 refine ⟨h1,?_⟩;refine XW_top (XW_nilb 26 12 60 Z24 rfl rfl (XW_of ?_));dsimp only[z33,Z1,Z23,Z5,Za,Zb,Zc,Ze,Zf,Zi];simp only[↓hcsBsX,entRgt,entHlp,entEnd,entLsP,entCiF,entCpF,entBst,entPow,entCop,entCiD,entCpD,undef,go_sem];refine XW_top (XW_frz 1 32 rfl rfl (XW_of ?_));dsimp only;have n01:(((0:Nat):Int)==((0:Nat):Int))=true:=rfl;simp only[↓hcsBsX,entRgt,entHlp,entEnd,entLsP,entCiF,entCpF,entBst,entPow,entCop,entCiD,entCpD,undef,n01,go_sem];try simp only[n01,td,reduceCtorEq]
 have hHl:∀p∈hs,p.2.1.length≤16:=hHx;have nl0:(0:Nat)≤1000:=by decide
 refine XW_for 2000 z33_0d [0,1,2,3,26,27,29] Nat (fun i=>[(30,.val Z1 (i:Int)),(6,.val Z1 (endsR (N,A,C,Q,P,S1,S2,S3) (hs.take i)))]) (fun _=>[]) (fun i=>i≤hs.length) (fun i=>hs.length-i) 0 ?_ ?_ ?_
 ·dsimp only[z33_0d];simp only[oy,go_sem];first|done|exact ⟨rfl,rfl⟩|rfl
 ·exact Nat.zero_le _
 intro i hi;dsimp only[z33_0,z33_0d];by_cases hi':i<hs.length
 case pos=>
  have wi:IntKind.i64.wrap ((i:Int)+1)=((i+1:Nat):Int):=i64_in _ (by omega);have hpi:=hHl (hs.getD i dPln) (by simp[List.getD,hi']);have he1:=endsR_at (w:=(N,A,C,Q,P,S1,S2,S3)) hi';have he2:=endsR_rng (N,A,C,Q,P,S1,S2,S3) (hs.take (i+1));rw[List.length_take] at he2;dsimp only[dPln] at hpi he1;obtain ⟨⟨pc,pss,pL,pG⟩,hPi⟩:∃p:DPlan,hs.getD i (0,[],[],[])=p:=⟨_,rfl⟩;rw[hPi] at hpi he1;have hp24:pss.length≤24:=Nat.le_trans hpi (by decide);have we:IntKind.i64.wrap (endsR (N,A,C,Q,P,S1,S2,S3) (hs.take i)+(endP (N,A,C,Q,P,S1,S2,S3) (pc,pss,pL,pG)).1)=endsR (N,A,C,Q,P,S1,S2,S3) (hs.take (i+1)):=by
   rw[←he1];exact i64_in _ (by omega)
  simp only[↓hcsBsX,entRgt,entHlp,entEnd,entLsP,entCiF,entCpF,entBst,entPow,entCop,entCiD,entCpD,undef,hi',hPi,hp24,wi,we,oy,go_sem];try simp only[hi',hPi,hp24,wi,we,oy,td,reduceCtorEq]
  exact ⟨i+1,by omega,hi',rfl,rfl⟩
 have hi2:i=hs.length:=by omega
 rw[hi2,List.take_length];rw[hi2] at hi';clear hi hi2;have hPm:hs.length≤1000000:=by omega
 simp only[↓hcsBsX,↓hdBsX,entRgt,entHlp,entEnd,entLsP,entCiF,entCpF,entBst,entPow,entCop,entCiD,entCpD,undef,hi',hPm,nl0,oy,go_sem];try simp only[hi',hPm,nl0,oy,td,reduceCtorEq]
 obtain ⟨e1,rfl⟩:=Prod.mk.inj hS;obtain rfl:=Option.some.inj e1;obtain ⟨⟨g1,g2⟩,g3,g4,g5⟩:=hfine;dsimp only at g1 g2 g3;refine XW_top (XW_leq (rest38 (N:=N) (A:=A) (C:=C) (Q:=Q) (P:=P) (S1:=S1) (S2:=S2) (S3:=S3) (xl:=hs) (x0:=([]:List Int)) (xn:=endsR (N,A,C,Q,P,S1,S2,S3) hs) (o:=([]:List Int)) (hs:=hs) (F:=([]:List DCase)) (b:=b) (ps:=ps) g1 ho1 g4 (hpw2 _ g5) (by rw[g2];omega) (fun p hp=>⟨Nat.le_trans (g3 p hp).lens.1 (Nat.le_of_ble_eq_true rfl),Nat.le_trans (g3 p hp).lens.2.1 (Nat.le_of_ble_eq_true rfl),Nat.le_trans (g3 p hp).lens.2.2 (Nat.le_of_ble_eq_true rfl)⟩) (by rw[hF])) ?_);simp only[le',avle,oy,go_sem]
end T
end Go.Proofs.YtpocfbfmjippnaaGreat
end
