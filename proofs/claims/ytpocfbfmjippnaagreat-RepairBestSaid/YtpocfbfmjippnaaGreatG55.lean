/- Parts of the proof of the law; no condition. -/
import Derived.Test.YtpocfbfmjippnaaGreatG42
import Derived.Test.YtpocfbfmjippnaaGreatG54
set_option linter.all false
section
namespace Go.Proofs.YtpocfbfmjippnaaGreat
open Go.RowKit Go.IntWalk
namespace T
set_option pp.deepTerms true
set_option pp.maxSteps 1000000
def entBt8:Ent:=⟨4,.cons Z21 (.cons Z23 (.cons Z1 (.cons Z5 .nil))),.bool,false,none,fun _=>True,fun _=>true⟩
def entBt1:Ent:={ entBt8 with pre:=fun x=>1≤List.length (α:=Int) x.2.2.2.1 }
def csBt8:List Ent:=[entSml8,entFew8,entOf38,entBsX,entHlR,entEds,entIn38,entPyd,entLsR,entRsI,entFst,entBg8] theorem hcsBt8 (f:FuncId):findEnt csBt8 f=findEnt [entSml8,entFew8,entOf38,entBsX,entHlR,entEds,entIn38,entPyd,entLsR,entRsI,entFst,entBg8] f:=rfl
set_option maxHeartbeats 8000000 in
theorem conBt1 (hB:Con Tryz.prog entBsX):Con Tryz.prog entBt1:=by
 refine con_is (C:=csBt8) u4 (by kernel_rfl) (by simp[csBt8,conSml8 hB,conFew8,conOf38,hB,conHlR,conEds,conIn38,conPyd,conLsR,conRsI,conFst,conBg8]) fun x hx hf=>?_;obtain ⟨⟨(N:Int),(A:List DArc),(C:List DCar),(Q:List DReq),(P:List DPair),(S1:Int),(S2:Int),(S3:Int)⟩,(ps:List DPlan),(b:Int),(o:List Int),_⟩:=x;have hz:1≤o.length:=hx;clear hx;dsimp only[entBt1,entBt8,u4];cases h0:few8 (N,A,C,Q,P,S1,S2,S3) ps o []
 ·simp only[↓hcsBt8,entSml8,entFew8,entOf38,entBsX,entHlR,entEds,entIn38,entPyd,entPy8,entLsR,entRsI,entFst,entBg8,undef,h0,go_sem];try simp only[h0,td,reduceCtorEq]
 obtain ⟨⟨_,f1,f2,f3,f4⟩,f5,_⟩:FewR8 (N,A,C,Q,P,S1,S2,S3) ps o []:=of_decide_eq_true h0;have p1:ps.length≤1000:=by omega
 have p2:o.length≤1000:=by omega
 have p5:∀p∈ps,p.2.1.length≤4:=fun p hp=>by
  obtain ⟨i,hi,rfl⟩:=mem_at dPln hp;exact (f5 i hi).1
 have p4:∀p∈ps,p.2.1.length≤16:=fun p hp=>Nat.le_trans (p5 p hp) (by decide);obtain ⟨⟨a1,a2,a3,a4⟩,hR⟩:∃r,bestR (N,A,C,Q,P,S1,S2,S3) ps b o=r:=⟨_,rfl⟩;rcases best_cases (w:=(N,A,C,Q,P,S1,S2,S3)) (b:=b) (o:=o) p5 with h|⟨h4,x,F,hx⟩
 ·have z11:(1:Int)=1:=rfl;have z16:¬(1:Int)=6:=by decide
  have z61:¬(6:Int)=1:=by decide
  have z66:(6:Int)=6:=rfl;have z10:¬(1:Int)=0:=by decide
  have z60:¬(6:Int)=0:=by decide
  have w00:IntKind.i64.wrap (((0:Nat):Int)+((0:Nat):Int))=0:=by decide
  have w01:IntKind.i64.wrap (0+((0:Nat):Int))=0:=by decide
  have b00:((0:Int)==0)=true:=rfl;rcases h with h|h<;>
  ·simp only[↓hcsBt8,entSml8,entFew8,entOf38,entBsX,entHlR,entEds,entIn38,entPyd,entPy8,entLsR,entRsI,entFst,entBg8,undef,h0,p1,p2,f2,p4,h,z11,z16,z61,z66,z10,z60,List.length_nil,w00,w01,b00,go_sem];try simp only[h0,p1,p2,f2,p4,h,z11,z16,z61,z66,z10,z60,List.length_nil,w00,w01,b00,td,reduceCtorEq]
   all_goals first|done|exact p4
 have ho2:o.length≤2:=by omega
 have hR:=hx.is;obtain ⟨hl1,hl2⟩:=hx.lens;have hfi:∀p∈x.2.1,p.2.1.length≤24:=fun p hp=>Nat.le_trans (hx.fine p hp).2 (by omega);have h3:=hx.few;have hhp:∀p∈helpF ps b,p.2.1.length≤16:=fun p hp=>p4 p (mem_helpF.1 hp).1;have hown:=hx.own;have hstep:=fun {i:Nat} (hi:i<(chF (helpF ps b).length o.length).length) {t:List Int} (ht:(chF (helpF ps b).length o.length).getD i []=t)=>hx.step hi ht;have hall:=hx.cnt_all;have hbest:=fun {to:List Int} (hm:to∈chF (helpF ps b).length o.length)=>hx.best hm;obtain ⟨lo,hLo⟩:∃lo,lostF o x.1=lo:=⟨_,rfl⟩;rw[hLo] at hR hown;obtain ⟨pr,hPr⟩:∃pr,keepR x.1 F=pr:=⟨_,rfl⟩;rw[hPr] at hR hall;simp only[hPr] at hstep;obtain ⟨en,hEn⟩:∃en,endsR (N,A,C,Q,P,S1,S2,S3) x.2.1=en:=⟨_,rfl⟩;simp only[hEn] at hbest;obtain ⟨af,hAf⟩:∃af,x.2.1=af:=⟨_,rfl⟩;rw[hAf] at hR hl2 hfi hEn;obtain ⟨x1,hX1⟩:∃x1,x.1=x1:=⟨_,rfl⟩;simp only[hX1] at hstep hbest;rw[hX1] at hall hl1;replace hown:∀c,lessR c (ownB o lo o.length)=lessR c x1:=fun c=>by rw[hown,hX1]
 obtain ⟨hs,hH⟩:∃hs,helpF ps b=hs:=⟨_,rfl⟩;simp only[hH] at hstep hbest;rw[hH] at hl2 h3 hhp hall;obtain ⟨nx0,nx1⟩:=next_ch h3 ho2;clear hx hLo hPr hAf hX1;obtain ⟨h,hh⟩:∃h:Int,(hs.length:Int)=h:=⟨_,rfl⟩;have haf:(af.length:Int)=h:=by omega
 have haf1:af.length≤1000:=by omega
 have hog:¬(o.length:Int)>2:=by omega
 obtain ⟨f,hff⟩:∃f:Int,fstF h=f:=⟨_,rfl⟩;have hf0:(if (h:Int)=0 then (-1:Int) else 0)=f:=hff;have hb0:(0:Int)≤(o.length:Int):=by omega
 have hb1:(o.length:Int)≤1000:=by omega
 simp only[↓hcsBt8,entSml8,entFew8,entOf38,entBsX,entHlR,entEds,entIn38,entPyd,entPy8,entLsR,entRsI,entFst,entBg8,undef,h0,p1,p2,f2,p4,hR,hH,hh,haf,haf1,hog,hfi,hEn,go_sem];try simp only[h0,p1,p2,f2,p4,hR,hH,hh,haf,haf1,hog,hfi,hEn,td,reduceCtorEq]
 refine ⟨p4,hfi,?_⟩;refine XW_for 1000 u4_0d [0] Nat (fun i=>[(17,.val Z1 (i:Int)),(16,.own 100)]) (fun i=>[(100,.row 3 (.int .i64) (ownB o lo i))]) (fun i=>i≤o.length) (fun i=>o.length-i) 0 ?_ ?_ ?_
 ·dsimp only[u4_0d];simp only[show ownB o lo 0=[] from rfl,go_sem];first|done|exact ⟨rfl,rfl⟩|rfl
 ·exact Nat.zero_le _
 intro i hi;dsimp only[u4_0,u4_0d];by_cases hi':i<o.length
 case pos=>
  have w1:IntKind.i64.wrap ((i:Int)+1)=((i+1:Nat):Int):=i64_in _ (by omega);have hat:=ownB_at o lo i;have hbb:((ownB o lo i).length+1)*8≤140737488355328:=by rw[ownB_len];omega
  obtain ⟨q,hq⟩:∃q,o.getD i 0=q:=⟨_,rfl⟩;rw[hq] at hat;by_cases hql:q∈lo
  ·rw[if_pos hql] at hat;simp only[↓hcsBt8,entSml8,entFew8,entOf38,entBsX,entHlR,entEds,entIn38,entPyd,entPy8,entLsR,entRsI,entFst,entBg8,undef,hi',hq,hql,w1,hbb,go_sem];try simp only[hi',hq,hql,w1,hbb,td,reduceCtorEq]
   exact ⟨i+1,by omega,hi',rfl,hat.symm⟩
  ·rw[if_neg hql] at hat;simp only[↓hcsBt8,entSml8,entFew8,entOf38,entBsX,entHlR,entEds,entIn38,entPyd,entPy8,entLsR,entRsI,entFst,entBg8,undef,hi',hq,hql,w1,hbb,go_sem];try simp only[hi',hq,hql,w1,hbb,td,reduceCtorEq]
   exact ⟨i+1,by omega,hi',rfl,hat.symm⟩
 obtain rfl:i=o.length:=by omega
 have hol:=ownB_len o lo o.length;obtain ⟨ow,how⟩:∃ow,ownB o lo o.length=ow:=⟨_,rfl⟩;simp only[how] at hown;rw[how] at hol;rw[how];obtain ⟨m,hm⟩:∃m,(chF hs.length o.length).length=m:=⟨_,rfl⟩;obtain ⟨co,hco⟩:∃co:Nat→Option (List Int),∀i,co i=(chF hs.length o.length)[i]?:=⟨_,fun _=>rfl⟩;obtain ⟨cn,hcn⟩:∃cn:Nat→Nat,∀i,cn i=cntB (N,A,C,Q,P,S1,S2,S3) hs o x1 i:=⟨_,fun _=>rfl⟩;have hcl:∀i,cn i≤i:=fun i=>by rw[hcn];exact cntB_le _ _ _ _ i
 simp only[←hcn] at hstep hall;rw[hm] at hall;have hc0:co 0=some (List.replicate o.length f):=by rw[hco,nx0,←hff,←hh]
 obtain ⟨R0,hR0⟩:∃R0,List.replicate o.length f=R0:=⟨_,rfl⟩;rw[hR0] at hc0;have hn0:cn 0=0:=by rw[hcn];rfl
 simp only[↓hcsBt8,entSml8,entFew8,entOf38,entBsX,entHlR,entEds,entIn38,entPyd,entPy8,entLsR,entRsI,entFst,entBg8,undef,hi',hb0,hb1,hh,hff,hR0,go_sem];try simp only[hi',hb0,hb1,hh,hff,hR0,td,reduceCtorEq]
 refine XW_for 2000 u4_1d [0,100] Nat (fun i=>[(20,optAV (.int .i64) (co i)),(19,.val Z1 (cn i:Int))]) (fun _=>[]) (fun i=>i≤m) (fun i=>m-i) 0 ?_ ?_ ?_
 ·dsimp only[u4_1d];simp only[hc0,hn0,oy,go_sem];first|done|exact ⟨rfl,rfl⟩|rfl
 ·exact Nat.zero_le _
 clear hi hi';intro i hi;dsimp only[u4_1,u4_1d,u23,Z1,Z21,Z24,Z5,Za,Zb,Zc,Ze,Zf];have hm16:m≤16:=by
  rw[←hm,ch_len];exact Nat.le_trans (Nat.pow_le_pow_left (show hs.length+1≤4 by omega) _) (Nat.pow_le_pow_right (by decide) ho2)
 by_cases hi':i<m
 case neg=>
  obtain rfl:i=m:=by omega
  have hcm:co i=none:=by rw[hco];exact List.getElem?_eq_none (by omega)
  have hli:((cn i:Nat):Int)=(pr.length:Int):=by omega
  simp only[↓hcsBt8,entSml8,entFew8,entOf38,entBsX,entHlR,entEds,entIn38,entPyd,entPy8,entLsR,entRsI,entFst,entBg8,undef,hcm,hli,oy,go_sem];try simp only[hcm,hli,oy,td,reduceCtorEq]
 obtain ⟨t,ht⟩:∃t,(chF hs.length o.length).getD i []=t:=⟨_,rfl⟩;have hci:co i=some t:=by rw[hco,←ht];simp[List.getD,show i<(chF hs.length o.length).length by omega]
 have hmem:t∈chF hs.length o.length:=by rw[←ht];simp[List.getD,show i<(chF hs.length o.length).length by omega]
 obtain ⟨htl,htb⟩:=ch_at (h:=hs.length) (n:=o.length) (i:=i) (by omega);obtain ⟨s1,s2⟩:=hstep (by omega) ht;have hbt:=hbest hmem;have hnx:=nx1 i (by omega);rw[ht] at htl htb hnx;rw[hh,←hco] at hnx;rw[hh] at htb;have htne:t≠[]:=fun z=>by rw[z] at htl;simp at htl;omega
 obtain ⟨⟨p,a⟩,hP⟩:∃r,playR (N,A,C,Q,P,S1,S2,S3) hs o t 0=r:=⟨_,rfl⟩;unfold badB at s1 s2;simp only[hP] at s1 s2 hbt;have hoc:=hown t;obtain ⟨c,hc⟩:∃c,lessR t x1=c:=⟨_,rfl⟩;rw[hc] at hoc s1 s2 hbt;have ht1:t.length≤1000:=by omega
 have ht2:hs.length≤1000:=by omega
 have htw:ow.length=t.length:=by omega
 have hw0:IntKind.i64.wrap ((o.length:Int)-1)=(o.length:Int)-1:=i64_in _ (by omega);have hb8:(0+o.length)*8≤140737488355328:=by omega
 have n00:¬(0:Int)<0:=by decide
 have g00:(0:Int)≥0:=by decide
 have hcli:=hcl i;have wc:IntKind.i64.wrap ((cn i:Int)+1)=((cn i+1:Nat):Int):=i64_in _ (by omega);obtain ⟨n,hn⟩:∃n,endsR (N,A,C,Q,P,S1,S2,S3) p=n:=⟨_,rfl⟩;rw[hn] at hbt;have key:(a<0∧c=0∧¬n<en∧cn (i+1)=cn i)∨(a<0∧¬c<0∧¬c=0∧c≥0∧cn (i+1)=cn i)∨(¬a<0∧c≥0∧cn (i+1)=cn i)∨¬a<0∧¬c≥0∧¬(cn i:Int)≥(pr.length:Int)∧cn i<pr.length∧pr.getD (cn i) ([],0)=(t,a)∧cn (i+1)=cn i+1:=by
  by_cases ha:a<0
  ·obtain ⟨b1,b2⟩:=hbt ha;have e:=s2 (by rw[show decide (0≤a)=false from decide_eq_false (by omega)];rfl);by_cases hc0:c=0
   ·exact .inl ⟨ha,hc0,fun z=>b2 ⟨hc0,z⟩,e⟩
   ·exact .inr (.inl ⟨ha,b1,hc0,by omega,e⟩)
  ·by_cases hcg:c≥0
   ·exact .inr (.inr (.inl ⟨ha,hcg,s2 (by rw[show decide (c<0)=false from decide_eq_false (by omega),Bool.and_false])⟩))
   ·obtain ⟨k1,k2,k3⟩:=s1 (by rw[decide_eq_true (show 0≤a by omega),decide_eq_true (show c<0 by omega)];rfl);exact .inr (.inr (.inr ⟨ha,hcg,by omega,k1,k2,k3⟩))
 clear s1 s2 hbt;rcases key with ⟨q1,rfl,q3,hs1⟩|⟨q1,q2,q3,q4,hs1⟩|⟨q1,q2,hs1⟩|⟨q1,q2,q3,q4,q5,hs1⟩
 all_goals (
  first
   |simp only[↓hcsBt8,entSml8,entFew8,entOf38,entBsX,entHlR,entEds,entIn38,entPyd,entPy8,entLsR,entRsI,entFst,entBg8,undef,n00,g00,hb8,p2,hci,optI_some,htne,hP,plyF,htl,htb,ht1,ht2,htw,ho2,hhp,hn,hh,hoc,wc,q1,q2,q3,q4,q5,oy,go_sem];try simp only[↓hcsBt8,entSml8,entFew8,entOf38,entBsX,entHlR,entEds,entIn38,entPyd,entPy8,entLsR,entRsI,entFst,entBg8,undef,n00,g00,hb8,p2,hci,optI_some,htne,hP,plyF,htl,htb,ht1,ht2,htw,ho2,hhp,hn,hh,hoc,wc,q1,q2,q3,q4,q5,oy,td,reduceCtorEq]
   |simp only[↓hcsBt8,entSml8,entFew8,entOf38,entBsX,entHlR,entEds,entIn38,entPyd,entPy8,entLsR,entRsI,entFst,entBg8,undef,n00,g00,hb8,p2,hci,optI_some,htne,hP,plyF,htl,htb,ht1,ht2,htw,ho2,hhp,hn,hh,hoc,wc,q1,q2,q3,q4,oy,go_sem];try simp only[↓hcsBt8,entSml8,entFew8,entOf38,entBsX,entHlR,entEds,entIn38,entPyd,entPy8,entLsR,entRsI,entFst,entBg8,undef,n00,g00,hb8,p2,hci,optI_some,htne,hP,plyF,htl,htb,ht1,ht2,htw,ho2,hhp,hn,hh,hoc,wc,q1,q2,q3,q4,oy,td,reduceCtorEq]
   |simp only[↓hcsBt8,entSml8,entFew8,entOf38,entBsX,entHlR,entEds,entIn38,entPyd,entPy8,entLsR,entRsI,entFst,entBg8,undef,n00,g00,hb8,p2,hci,optI_some,htne,hP,plyF,htl,htb,ht1,ht2,htw,ho2,hhp,hn,hh,hoc,wc,q1,q2,oy,go_sem];try simp only[↓hcsBt8,entSml8,entFew8,entOf38,entBsX,entHlR,entEds,entIn38,entPyd,entPy8,entLsR,entRsI,entFst,entBg8,undef,n00,g00,hb8,p2,hci,optI_some,htne,hP,plyF,htl,htb,ht1,ht2,htw,ho2,hhp,hn,hh,hoc,wc,q1,q2,oy,td,reduceCtorEq]
   |simp only[↓hcsBt8,entSml8,entFew8,entOf38,entBsX,entHlR,entEds,entIn38,entPyd,entPy8,entLsR,entRsI,entFst,entBg8,undef,n00,g00,hb8,p2,hci,optI_some,htne,hP,plyF,htl,htb,ht1,ht2,htw,ho2,hhp,hn,hh,hoc,wc,q1,q3,oy,go_sem];try simp only[↓hcsBt8,entSml8,entFew8,entOf38,entBsX,entHlR,entEds,entIn38,entPyd,entPy8,entLsR,entRsI,entFst,entBg8,undef,n00,g00,hb8,p2,hci,optI_some,htne,hP,plyF,htl,htb,ht1,ht2,htw,ho2,hhp,hn,hh,hoc,wc,q1,q3,oy,td,reduceCtorEq]
  refine ⟨⟨hhp,htb⟩,?_⟩
  refine XW_for 3000 u23_0d [0,100] Nat (fun k=>[(6,.val Z1 (((o.length-k:Nat):Int)-1)),(5,.own 1900)]) (fun k=>[(1900,.row 3 (.int .i64) (rowN h t k))]) (fun k=>k≤o.length∧∀j,o.length-k≤j→j<o.length→t.getD j 0<0) (fun k=>o.length-k) 0 ?_ ?_ ?_
  ·dsimp only[u23_0d]
   simp only[hs1,rowN_zero,hw0,Nat.sub_zero,oy,go_sem]
   first|done|exact ⟨rfl,rfl⟩|rfl
  ·exact ⟨Nat.zero_le _,fun j h1 h2=>absurd h2 (by omega)⟩
  rintro k ⟨hk,hneg⟩
  dsimp only[u23_0,u23_0d]
  by_cases hk':k<o.length
  case neg=>
   have hke:((o.length-k:Nat):Int)-1= -1:=by omega
   have hge:¬(-1:Int)≥0:=by decide
   have hno:co (i+1)=none:=by rw[←hnx];exact next_end fun j hj=>hneg j (by omega) (by omega)
   simp only[↓hcsBt8,entSml8,entFew8,entOf38,entBsX,entHlR,entEds,entIn38,entPyd,entPy8,entLsR,entRsI,entFst,entBg8,undef,hke,hge,oy,go_sem]
   try simp only[hke,hge,oy,td,reduceCtorEq]
   refine ⟨i+1,by omega,by omega,?_⟩
   simp only[hno,hs1,oy,go_sem]
   first|done|exact ⟨rfl,rfl⟩|rfl
  obtain ⟨v,hv⟩:∃v:Nat,t.length=v+1+k:=⟨o.length-1-k,by omega⟩
  have hke:((o.length-k:Nat):Int)-1=(v:Int):=by omega
  have hvo:v<o.length:=by omega
  have hv0:(v:Int)≥0:=by omega
  have hri:=rowN_is (h:=h) hv
  have hsl:=setN_len (h:=h) (show k<t.length by omega)
  rw[htl] at hsl
  have hsg:=setN_get (h:=h) hv
  have hss:=setN_set (h:=h) hv
  have hnr:=next_row (h:=h) hv (fun j h1 h2=>hneg j (by omega) (by omega))
  rw[hnx] at hnr
  have htv:=htb (t.getD v 0) (by simp[List.getD,show v<t.length by omega])
  obtain ⟨d,hd⟩:∃d,t.getD v 0=d:=⟨_,rfl⟩
  rw[hd] at hri hnr htv
  have hwk:IntKind.i64.wrap ((v:Int)-1)=((o.length-(k+1):Nat):Int)-1:=by
   rw[show ((o.length-(k+1):Nat):Int)-1=(v:Int)-1 by omega];exact i64_in _ (by omega)
  by_cases hd0:d≥0
  ·have hwd:IntKind.i64.wrap (d+1)=d+1:=i64_in _ (by omega)
   have hnr:=hnr hd0
   by_cases hdh:d+1≥h
   ·rw[if_pos hdh] at hnr
    simp only[↓hcsBt8,entSml8,entFew8,entOf38,entBsX,entHlR,entEds,entIn38,entPyd,entPy8,entLsR,entRsI,entFst,entBg8,undef,hke,hv0,hvo,hri,hsl,hsg,hss,hd0,hwd,hdh,oy,go_sem]
    try simp only[hke,hv0,hvo,hri,hsl,hsg,hss,hd0,hwd,hdh,oy,td,reduceCtorEq]
    refine ⟨i+1,by omega,by omega,?_⟩
    simp only[hnr,hs1,oy,go_sem]
    first|done|exact ⟨rfl,rfl⟩|rfl
   ·rw[if_neg hdh] at hnr
    simp only[↓hcsBt8,entSml8,entFew8,entOf38,entBsX,entHlR,entEds,entIn38,entPyd,entPy8,entLsR,entRsI,entFst,entBg8,undef,hke,hv0,hvo,hri,hsl,hsg,hss,hd0,hwd,hdh,oy,go_sem]
    try simp only[hke,hv0,hvo,hri,hsl,hsg,hss,hd0,hwd,hdh,oy,td,reduceCtorEq]
    refine ⟨i+1,by omega,by omega,?_⟩
    simp only[hnr,hs1,oy,go_sem]
    first|done|exact ⟨rfl,rfl⟩|rfl
  simp only[↓hcsBt8,entSml8,entFew8,entOf38,entBsX,entHlR,entEds,entIn38,entPyd,entPy8,entLsR,entRsI,entFst,entBg8,undef,hke,hv0,hvo,hri,hsl,hsg,hss,hd0,hf0,hwk,oy,go_sem]
  try simp only[hke,hv0,hvo,hri,hsl,hsg,hss,hd0,hf0,hwk,oy,td,reduceCtorEq]
  refine ⟨k+1,by omega,⟨by omega,fun j h1 h2=>?_⟩,rfl,?_⟩
  ·rcases Nat.eq_or_lt_of_le (show v≤j by omega) with q|q
   ·rw[←q,hd];omega
   ·exact hneg j (by omega) h2
  ·rw[←hff];rfl)
end T
end Go.Proofs.YtpocfbfmjippnaaGreat
end
