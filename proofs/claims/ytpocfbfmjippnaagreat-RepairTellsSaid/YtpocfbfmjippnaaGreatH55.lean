/- Parts of the proof of the law; no condition. -/
import Derived.Test.YtpocfbfmjippnaaGreatH54
set_option linter.all false
section
namespace Go.Proofs.YtpocfbfmjippnaaGreat
open Go.RowKit Go.IntWalk
namespace T
set_option pp.deepTerms true
set_option pp.maxSteps 1000000
def dg (n u:Nat):Int:=if u=n then-1 else (u:Int)
def digG (n k:Nat):List DCase:=(List.range (n+1)).map fun u=>([(k:Int),dg n u],0)
theorem digG_len (n k:Nat):(digG n k).length=n+1:=by unfold digG;rw[List.length_map,List.length_range]
theorem digG_is (n k:Nat):((chF n 1).map fun r=>(([]:List Int)++(k:Int)::r,(0:Int)))=digG n k:=by
 have e:chF n 1=(digF n).map fun t=>[t]:=by
  show (digF n).flatMap (fun t=>[[t]])=_;induction digF n with
  |nil=>rfl
  |cons a l ih=>rw[List.flatMap_cons,ih];rfl
 rw[e,List.map_map];unfold digG digF;rw[List.map_append,List.range_succ,List.map_append,List.map_map];congr 1
 ·refine List.map_congr_left fun u hu=>?_;have:=List.mem_range.1 hu;show ([(k:Int),(u:Int)],(0:Int))=([(k:Int),dg n u],0);unfold dg;rw[if_neg (by omega)]
 ·show [([(k:Int),(-1:Int)],(0:Int))]=[([(k:Int),dg n n],0)];unfold dg;rw[if_pos rfl]
theorem digG_at (n k:Nat) {u:Nat} (h:u<n+1):(digG n k).take (u+1)=(digG n k).take u++[([(k:Int),dg n u],0)]:=by
 rw[take_nx (d:=dCase) (by rw[digG_len];exact h)];congr 2;simp[digG,List.getD,h]
def entBs2:Ent:={ entBsX with pre:=fun x=>(List.length (α:=DPlan) x.2.1≤1000∧List.length (α:=Int) x.2.2.2.1=2)∧∀p∈(x.2.1:List DPlan),p.2.1.length≤16 }
set_option maxHeartbeats 4000000 in
theorem conBs2:Con Tryz.prog entBs2:=by
 refine con_is (C:=csBsX) z9 (by kernel_rfl) (by simp[csBsX,conRgt,conHlp,conEnd,conLsP,conCiF,conCpF,conBst,conPow,conCop,conCiD,conCpD]) fun x hx hf=>?_;obtain ⟨⟨(N:Int),(A:List DArc),(C:List DCar),(Q:List DReq),(P:List DPair),(S1:Int),(S2:Int),(S3:Int)⟩,(ps:List DPlan),(b:Int),(o:List Int),_⟩:=x;obtain ⟨⟨hl,ho⟩,hx⟩:(ps.length≤1000∧o.length=2)∧∀p∈ps,p.2.1.length≤16:=hx;obtain ⟨q,q2,rfl⟩:∃q q2,o=[q,q2]:=by
  match o,ho with
  |[q,q2],_=>exact ⟨q,q2,rfl⟩
 have h1:∀p∈ps,p.2.1.length≤24:=fun p hp=>by have:=hx p hp;omega
 have ho1:([q,q2]:List Int).length≤1000:=Nat.le_of_ble_eq_true rfl;dsimp only[entBs2,entBsX,z9,Z1,Z21,Z22,Z24,Z26,Z27,Z5,Za,Zb,Zc,Ze,Zh];cases hrr:rightR38 (N,A,C,Q,P,S1,S2,S3) ps b [q,q2] with
 |false=>
  have hF:=best_bad hrr;simp only[↓hcsBsX,entRgt,entHlp,entEnd,entLsP,entCiF,entCpF,entBst,entPow,entCop,entCiD,entCpD,undef,hrr,h1,hl,hF,go_sem];try simp only[hrr,h1,hl,hF,td,reduceCtorEq]
  all_goals first|done|exact h1
 |true=>
 by_cases h5:3<(helpF ps b).length
 ·have hF:=best_full hrr (.inr h5);have h5':((helpF ps b).length:Int)>3:=by omega
  simp only[↓hcsBsX,entRgt,entHlp,entEnd,entLsP,entCiF,entCpF,entBst,entPow,entCop,entCiD,entCpD,undef,hrr,h1,hl,h5',hF,go_sem];try simp only[hrr,h1,hl,h5',hF,td,reduceCtorEq]
  all_goals first|done|exact h1
 have h5':¬((helpF ps b).length:Int)>3:=by omega
 obtain ⟨x,F,hS,hF⟩:=best_ok hrr (fun z=>z.elim (by simp) h5);rw[keep_eq] at hF;have hHx:∀p∈helpF ps b,p.2.1.length≤16:=fun p hp=>hx p (mem_helpF.1 hp).1;have hfine:=scan_fine hS (help_fine hrr hx);rw[←look_scan] at hS;have hlk:lookF (N,A,C,Q,P,S1,S2,S3) (helpF ps b).length [q,q2] [] (helpF ps b) (none,[])=lookF (N,A,C,Q,P,S1,S2,S3) (helpF ps b).length [q2] [-1] (helpF ps b) ((List.range (helpF ps b).length).foldl (kidF (N,A,C,Q,P,S1,S2,S3) (helpF ps b).length (lookF (N,A,C,Q,P,S1,S2,S3) (helpF ps b).length [q2]) [] q 1 (helpF ps b)) (none,[])):=rfl;rw[hlk] at hS;obtain ⟨hs,hH⟩:∃hs,helpF ps b=hs:=⟨_,rfl⟩;rw[hH] at h5 h5' hHx hS hfine;have hpw2:∀n:Nat,n≤(hs.length+1)^[q,q2].length→n≤1000000:=fun n hn=>Nat.le_trans hn (Nat.le_trans (Nat.pow_le_pow_left (show hs.length+1≤4 by omega) 2) (by decide));have n14:¬((2:Nat):Int)>4:=by decide
 simp only[↓hcsBsX,entRgt,entHlp,entEnd,entLsP,entCiF,entCpF,entBst,entPow,entCop,entCiD,entCpD,undef,hrr,h1,hl,h5',hH,n14,go_sem];try simp only[hrr,h1,hl,h5',hH,n14,td,reduceCtorEq]
 refine ⟨h1,?_⟩;refine XW_top (XW_nilb 26 12 60 Z24 rfl rfl (XW_of ?_));dsimp only[z33,Z1,Z23,Z5,Za,Zb,Zc,Ze,Zf,Zi];simp only[↓hcsBsX,entRgt,entHlp,entEnd,entLsP,entCiF,entCpF,entBst,entPow,entCop,entCiD,entCpD,undef,go_sem];refine XW_top (XW_frz 1 32 rfl rfl (XW_of ?_));dsimp only;have n01:(((0:Nat):Int)==((2:Nat):Int))=false:=rfl;simp only[↓hcsBsX,entRgt,entHlp,entEnd,entLsP,entCiF,entCpF,entBst,entPow,entCop,entCiD,entCpD,undef,n01,go_sem];try simp only[n01,td,reduceCtorEq]
 obtain ⟨B,b0,b1,b2⟩:=kid_at (N,A,C,Q,P,S1,S2,S3) hs.length (lookF (N,A,C,Q,P,S1,S2,S3) hs.length [q2]) [] q 1 hs (none,[]);rw[b2] at hS;refine XW_for 1000 z33_1d [0,1,2,3,27] Nat (fun k=>[(94,.val Z1 (k:Int))]) (fun k=>[(26,.box 78 [.val Z1 N,.val Z13 A,.val Z20 C,.val Z7 Q,.val Z16 P,.val Z1 S1,.val Z1 S2,.val Z1 S3,.val Z5 [q,q2],optAV (.int .i64) (toO (B k).1),optAV Z22 (plO (B k).1),.val Z1 (enO (B k).1),.own 29]),(29,.row 60 Z24 (B k).2)]) (fun k=>k≤hs.length∧OkA 2 (B k)∧(B k).2.length≤k*(hs.length+1)) (fun k=>hs.length-k) 0 ?_ ?_ ?_
 ·dsimp only[z33_1d];simp only[b0,oy,go_sem];first|done|exact ⟨rfl,rfl⟩|rfl
 ·exact ⟨Nat.zero_le _,by rw[b0];exact OkA.zero 2,by rw[b0];exact Nat.zero_le _⟩
 rintro k ⟨hk,hok,hkl⟩;dsimp only[z33_1,z33_1d,w33,z69,Z1,Z21,Z22,Z5,Za,Zb,Zc,Ze,Zg,Zh];by_cases hk':k<hs.length
 case neg=>
  obtain rfl:k=hs.length:=by omega
  have n11:(((1:Nat):Int)==((1:Nat):Int))=true:=rfl;have hkI:¬(hs.length:Int)<(hs.length:Int):=by omega
  simp only[↓hcsBsX,entRgt,entHlp,entEnd,entLsP,entCiF,entCpF,entBst,entPow,entCop,entCiD,entCpD,undef,hk',hkI,oy,go_sem];try simp only[hk',hkI,oy,td,reduceCtorEq]
  have hlen16:(B hs.length).2.length≤1000:=Nat.le_trans hkl (Nat.le_trans (Nat.mul_le_mul (show hs.length≤3 by omega) (show hs.length+1≤4 by omega)) (by decide));refine XW_top (XW_leq (look1 (N:=N) (A:=A) (C:=C) (Q:=Q) (P:=P) (S1:=S1) (S2:=S2) (S3:=S3) (ps:=ps) (hs:=hs) (P':=hs) (b:=b) (q:=q) (q2:=q2) (i:=(hs.length:Int)) (t:=-1) (acc:=B hs.length) hok hlen16 (by omega) rfl (fun p hp=>Nat.le_trans (hHx p hp) (by decide)) (fun x' D hx'=>?_)) ?_)
  ·obtain ⟨e1,rfl⟩:=Prod.mk.inj (hx'.symm.trans hS);obtain rfl:=Option.some.inj e1;refine ⟨?_,?_⟩
   ·dsimp only[endLk1];simp only[↓hcsBsX,entRgt,entHlp,entEnd,entLsP,entCiF,entCpF,entBst,entPow,entCop,entCiD,entCpD,undef,oy,go_sem];obtain ⟨⟨g1,g2⟩,g3,g4,g5⟩:=hfine;try dsimp only at g1 g2 g3
    refine XW_top (XW_leq (rest38 (N:=N) (A:=A) (C:=C) (Q:=Q) (P:=P) (S1:=S1) (S2:=S2) (S3:=S3) (xl:=x'.2.1) (x0:=x'.1) (xn:=x'.2.2) (o:=[q,q2]) (hs:=hs) (F:=D) (b:=b) (ps:=ps) g1 ho1 g4 (hpw2 _ g5) (by rw[g2];omega) (fun p hp=>⟨Nat.le_trans (g3 p hp).lens.1 (Nat.le_of_ble_eq_true rfl),Nat.le_trans (g3 p hp).lens.2.1 (Nat.le_of_ble_eq_true rfl),Nat.le_trans (g3 p hp).lens.2.2 (Nat.le_of_ble_eq_true rfl)⟩) (by rw[hF])) ?_);simp only[le',avle,oy,go_sem]
   ·dsimp only[endLk2];simp only[↓hcsBsX,entRgt,entHlp,entEnd,entLsP,entCiF,entCpF,entBst,entPow,entCop,entCiD,entCpD,undef,oy,go_sem];obtain ⟨⟨g1,g2⟩,g3,g4,g5⟩:=hfine;try dsimp only at g1 g2 g3
    refine XW_top (XW_leq (rest38 (N:=N) (A:=A) (C:=C) (Q:=Q) (P:=P) (S1:=S1) (S2:=S2) (S3:=S3) (xl:=x'.2.1) (x0:=x'.1) (xn:=x'.2.2) (o:=[q,q2]) (hs:=hs) (F:=D) (b:=b) (ps:=ps) g1 ho1 g4 (hpw2 _ g5) (by rw[g2];omega) (fun p hp=>⟨Nat.le_trans (g3 p hp).lens.1 (Nat.le_of_ble_eq_true rfl),Nat.le_trans (g3 p hp).lens.2.1 (Nat.le_of_ble_eq_true rfl),Nat.le_trans (g3 p hp).lens.2.2 (Nat.le_of_ble_eq_true rfl)⟩) (by rw[hF])) ?_);simp only[le',avle,oy,go_sem]
  ·dsimp only[atLk];simp only[le',avle,List.cons_append,List.nil_append,oy,go_sem]
 have w1:IntKind.i64.wrap ((k:Int)+1)=((k+1:Nat):Int):=i64_in _ (by omega);have hpk:=hHx (hs.getD k dPln) (by simp[List.getD,hk']);have b1:=b1 k;unfold kidF at b1;have hbl:=bst_len (w:=(N,A,C,Q,P,S1,S2,S3)) (p:=hs.getD k dPln) (q:=q);dsimp only[dPln] at hpk b1 hbl;obtain ⟨⟨c,ss,L,G⟩,hP⟩:∃p:DPlan,hs.getD k (0,[],[],[])=p:=⟨_,rfl⟩;rw[hP] at hpk b1 hbl;dsimp only at hpk;have hp20:ss.length≤20:=by omega
 unfold bstP at b1 hbl;obtain ⟨⟨⟨x1,x2,x3,x4⟩,y1,y2,y3,e⟩,hB⟩:∃X:DPlan×Int×Int×List DPlace×Int,bestF (N,A,C,Q,P,S1,S2,S3) (c,ss,L,G) q=X:=⟨_,rfl⟩;rw[hB] at b1 hbl;dsimp only at b1 hbl;have wh:IntKind.i64.wrap ((hs.length:Int)+1)=((hs.length+1:Nat):Int):=i64_in _ (by omega);have w11:IntKind.i64.wrap (((2:Nat):Int)-((1:Nat):Int))=1:=by decide
 have w10:IntKind.i64.wrap (((1:Nat):Int)-1)=0:=by decide
 have wm1:IntKind.i64.wrap (0-1)= -1:=by decide
 have n11:(((1:Nat):Int)==((1:Nat):Int))=true:=rfl;have hpw:∀n,powF n 1=n:=fun n=>by simp[powF]
 have hpw0:∀n,powF n 0=1:=fun n=>rfl;have hp0:(0:Int)≤((hs.length+1:Nat):Int):=by omega
 have hp4:((hs.length+1:Nat):Int)≤4:=by omega
 have le0:(0:Int)≤1:=by decide
 have le04:(1:Int)≤4:=by decide
 by_cases he:e=0
 case neg=>
  rw[if_pos he] at b1;have b1:B (k+1)=((B k).1,(B k).2++digG hs.length k):=by rw[b1,←digG_is];rfl
  simp only[↓hcsBsX,entRgt,entHlp,entEnd,entLsP,entCiF,entCpF,entBst,entPow,entCop,entCiD,entCpD,undef,hk',hP,hp20,hB,he,wh,w11,w10,hpw,hp0,hp4,le0,le04,Int.toNat_one,oy,go_sem];try simp only[hk',hP,hp20,hB,he,wh,w11,w10,hpw,hp0,hp4,le0,le04,Int.toNat_one,oy,td,reduceCtorEq]
  refine ⟨Nat.zero_lt_two,?_⟩;refine XW_for 2000 z69_0d [0,1,2,3,27,1011] Nat (fun u=>[(25,.val Z1 (u:Int))]) (fun u=>[(26,.box 78 [.val Z1 N,.val Z13 A,.val Z20 C,.val Z7 Q,.val Z16 P,.val Z1 S1,.val Z1 S2,.val Z1 S3,.val Z5 [q,q2],optAV (.int .i64) (toO ((B k).1,(B k).2++(digG hs.length k).take u).1),optAV Z22 (plO ((B k).1,(B k).2++(digG hs.length k).take u).1),.val Z1 (enO ((B k).1,(B k).2++(digG hs.length k).take u).1),.own 29]),(29,.row 60 Z24 ((B k).1,(B k).2++(digG hs.length k).take u).2)]) (fun u=>u≤hs.length+1) (fun u=>hs.length+1-u) 0 ?_ ?_ ?_
  ·dsimp only[z69_0d];simp only[List.take_zero,List.append_nil,oy,go_sem];first|done|exact ⟨rfl,rfl⟩|rfl
  ·exact Nat.zero_le _
  intro u hu;dsimp only[z69_0,z69_0d];by_cases hu':u<hs.length+1
  case neg=>
   obtain rfl:u=hs.length+1:=by omega
   have c1:¬((hs.length+1:Nat):Int)<((hs.length+1:Nat):Int):=by omega
   simp only[↓hcsBsX,entRgt,entHlp,entEnd,entLsP,entCiF,entCpF,entBst,entPow,entCop,entCiD,entCpD,undef,c1,w1,oy,go_sem];try simp only[c1,w1,oy,td,reduceCtorEq]
   have b2':B (k+1)=((B k).1,(B k).2++digG hs.length k):=b1;refine ⟨k+1,by omega,⟨by omega,by rw[b2',←digG_is];exact hok.fail hs.length 1 (to:=[]) (k:Int) 0 rfl,by rw[b2',List.length_append,digG_len,Nat.succ_mul];omega⟩,rfl,?_⟩;rw[b2',List.take_of_length_le (by rw[digG_len];exact Nat.le_refl _)];simp only[oy,td,reduceCtorEq];first|done|rfl
  have c0:(u:Int)<((hs.length+1:Nat):Int):=by omega
  have hdt:=digG_at hs.length k hu';simp only[↓hcsBsX,entRgt,entHlp,entEnd,entLsP,entCiF,entCpF,entBst,entPow,entCop,entCiD,entCpD,undef,c0,w11,w10,oy,go_sem];try simp only[c0,w11,w10,oy,td,reduceCtorEq]
  refine XW_for 3000 z69_1d [0,1,2,3,26,27,29,1011] Nat (fun s=>[(9,.val Z1 (0-(s:Int))),(8,.own 2004)]) (fun s=>[(2004,.row 3 (.int .i64) ([(k:Int)]++[dg hs.length u].take s))]) (fun s=>s≤1) (fun s=>1-s) 0 ?_ ?_ ?_
  ·dsimp only[z69_1d];simp only[List.take_zero,List.append_nil,oy,go_sem];decide
  ·exact Nat.zero_le _
  intro s hs1;dsimp only[z69_1,z69_1d];by_cases hs2:s<1
  case neg=>
   obtain rfl:s=1:=by omega
   have g1:¬(0-((1:Nat):Int))≥0:=by decide
   have t0:IntKind.i64.wrap ((u:Int)+1)=((u+1:Nat):Int):=i64_in _ (by omega);have hb32:((B k).2.length+min u (digG hs.length k).length+1)*32≤140737488355328:=by
    have h1:k*(hs.length+1)≤4*4:=Nat.mul_le_mul (by omega) (by omega);have h2:min u (digG hs.length k).length≤u:=Nat.min_le_left _ _;omega
   simp only[↓hcsBsX,entRgt,entHlp,entEnd,entLsP,entCiF,entCpF,entBst,entPow,entCop,entCiD,entCpD,undef,g1,t0,hb32,List.length_append,List.length_take,oy,go_sem];try simp only[g1,t0,hb32,List.length_append,List.length_take,oy,td,reduceCtorEq]
   exact ⟨u+1,by omega,by omega,rfl,by rw[List.append_assoc,←hdt]⟩
  obtain rfl:s=0:=by omega
  have z0:(0-((0:Nat):Int))=0:=rfl;have g0:(0:Int)≥0:=Int.le_refl 0;have le00:(0:Int)≤0:=Int.le_refl 0;have le40:(0:Int)≤4:=by decide
  have e1:(IntKind.i64.wrap ((u:Int).tdiv 1)).tmod ((hs.length+1:Nat):Int)=(u:Int):=by rw[Int.tdiv_one,i64_in _ (by omega),Int.tmod_eq_of_lt (by omega) (by omega)]
  simp only[↓hcsBsX,entRgt,entHlp,entEnd,entLsP,entCiF,entCpF,entBst,entPow,entCop,entCiD,entCpD,undef,z0,g0,wh,hpw0,hp0,hp4,le00,le40,e1,Int.toNat_zero,oy,go_sem];try simp only[z0,g0,wh,hpw0,hp0,hp4,le00,le40,e1,Int.toNat_zero,oy,td,reduceCtorEq]
  refine ⟨⟨by decide,by omega⟩,fun e=>⟨1,by decide,Nat.le_refl _,by decide,?_⟩,fun e=>⟨1,by decide,Nat.le_refl _,by decide,?_⟩⟩
  ·show [(k:Int),-1]=[(k:Int),dg hs.length u];rw[show dg hs.length u= -1 from if_pos e]
  ·show [(k:Int),(u:Int)]=[(k:Int),dg hs.length u];rw[show dg hs.length u=(u:Int) from if_neg e]
 subst he;rw[if_neg (by decide)] at b1;simp only[↓hcsBsX,entRgt,entHlp,entEnd,entLsP,entCiF,entCpF,entBst,entPow,entCop,entCiD,entCpD,undef,hk',hP,hp20,hB,oy,go_sem];try simp only[hk',hP,hp20,hB,oy,td,reduceCtorEq]
 refine ⟨by decide,by omega,?_⟩;obtain ⟨P',hP'⟩:∃P':List DPlan,hs.set k (x1,x2,x3,x4)=P':=⟨_,rfl⟩;have hP'l:P'.length=hs.length:=by rw[←hP',List.length_set]
 rw[hP'] at b1⊢;refine XW_top (XW_frz 19 1042 rfl rfl (XW_of ?_));dsimp only;simp only[↓hcsBsX,entRgt,entHlp,entEnd,entLsP,entCiF,entCpF,entBst,entPow,entCop,entCiD,entCpD,undef,oy,go_sem];have b1:B (k+1)=lookF (N,A,C,Q,P,S1,S2,S3) hs.length [q2] [(k:Int)] P' (B k):=b1;have hx2:x2.length=ss.length+2:=(hbl rfl).1;have hPl:∀p∈P',p.2.1.length≤18:=by rw[←hP'];exact set_lens hHx (show x2.length≤16+2 by omega)
 have hlf:OkA 2 (B (k+1)):=by rw[b1];exact OkA.look (N,A,C,Q,P,S1,S2,S3) hs.length [q2] _ _ _ rfl hok
 have hll:(B (k+1)).2.length≤(k+1)*(hs.length+1):=by
  have h:=look_len (N,A,C,Q,P,S1,S2,S3) hs.length [q2] [(k:Int)] P' (B k);rw[←b1] at h;rw[Nat.succ_mul];simp only[List.length_singleton,Nat.pow_one] at h;omega
 have hlen16:(B k).2.length≤1000:=Nat.le_trans hkl (Nat.le_trans (Nat.mul_le_mul (show k≤3 by omega) (show hs.length+1≤4 by omega)) (by decide));refine XW_top (XW_leq (look1 (N:=N) (A:=A) (C:=C) (Q:=Q) (P:=P) (S1:=S1) (S2:=S2) (S3:=S3) (ps:=ps) (hs:=hs) (P':=P') (b:=b) (q:=q) (q2:=q2) (i:=(k:Int)) (t:=(k:Int)) (acc:=B k) hok hlen16 (by omega) hP'l hPl (fun x' D hx'=>?_)) ?_)
 ·rw[hP'l,←b1] at hx';refine ⟨?_,?_⟩
  ·dsimp only[endLk1];simp only[↓hcsBsX,entRgt,entHlp,entEnd,entLsP,entCiF,entCpF,entBst,entPow,entCop,entCiD,entCpD,undef,w1,oy,go_sem];try simp only[w1,oy,td,reduceCtorEq]
   refine ⟨k+1,by omega,⟨hk',hlf,hll⟩,rfl,?_⟩;rw[hx'];simp only[oy,go_sem];first|done|exact ⟨⟨rfl,rfl⟩,rfl⟩|rfl
  ·dsimp only[endLk2];simp only[↓hcsBsX,entRgt,entHlp,entEnd,entLsP,entCiF,entCpF,entBst,entPow,entCop,entCiD,entCpD,undef,w1,oy,go_sem];try simp only[w1,oy,td,reduceCtorEq]
   refine ⟨k+1,by omega,⟨hk',hlf,hll⟩,rfl,?_⟩;rw[hx'];simp only[oy,go_sem];first|done|exact ⟨⟨rfl,rfl⟩,rfl⟩|rfl
 ·dsimp only[atLk];simp only[le',avle,List.cons_append,List.nil_append,oy,go_sem]
end T
end Go.Proofs.YtpocfbfmjippnaaGreat
end
