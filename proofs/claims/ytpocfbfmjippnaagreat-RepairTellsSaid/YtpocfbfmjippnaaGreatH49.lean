/- Parts of the proof of the law; no condition. -/
import Derived.Test.YtpocfbfmjippnaaGreatH45
import Derived.Test.YtpocfbfmjippnaaGreatH47
import Derived.Test.YtpocfbfmjippnaaGreatH48
set_option linter.all false
section
namespace Go.Proofs.YtpocfbfmjippnaaGreat
open Go.RowKit Go.IntWalk
namespace T
set_option pp.deepTerms true
set_option pp.maxSteps 1000000
def entBg8:Ent:=⟨22,.cons Z1 (.cons Z1 .nil),Z5,false,none,fun x=>0≤(x.1:Int)∧(x.1:Int)≤1000,fun x=>List.replicate (Int.toNat x.1) (fstF x.2.1)⟩
def csBg8:List Ent:=[entFst] theorem hcsBg8 (f:FuncId):findEnt csBg8 f=findEnt [entFst] f:=rfl
theorem conBg8:Con Tryz.prog entBg8:=by
 refine con_is (C:=csBg8) x22 (by kernel_rfl) (by simp[csBg8,conFst]) fun x hx hf=>?_;obtain ⟨(n:Int),(h:Int),_⟩:=x;obtain ⟨h1,h2⟩:0≤n∧n≤1000:=hx;obtain ⟨m,rfl⟩:∃m:Nat,n=m:=⟨n.toNat,by omega⟩;obtain ⟨f,hff⟩:∃f:Int,fstF h=f:=⟨_,rfl⟩;have hf0:(if (h:Int)=0 then (-1:Int) else 0)=f:=hff;obtain ⟨RR,hRR⟩:∃RR:Nat→List Int,∀k,RR k=List.replicate k f:=⟨_,fun k=>rfl⟩;have hRl:∀k,(RR k).length=k:=fun k=>by rw[hRR,List.length_replicate]
 have hRn:∀k,RR k++[f]=RR (k+1):=fun k=>by rw[hRR,hRR,←List.replicate_succ']
 dsimp only[entBg8,x22];rw[hff,←hRR,Int.toNat_natCast];simp only[↓hcsBg8,entFst,undef,go_sem];try simp only[td,reduceCtorEq]
 refine XW_for 1000 x22_0d [] Nat (fun k=>[(6,.val Z1 (k:Int)),(5,.own 100)]) (fun k=>[(100,.row 3 (.int .i64) (RR k))]) (fun k=>k≤m) (fun k=>m-k) 0 ?_ ?_ ?_
 ·dsimp only[x22_0d];simp only[show RR 0=[] by rw[hRR];rfl,go_sem];first|done|exact ⟨rfl,rfl⟩|rfl
 ·exact Nat.zero_le _
 intro k hk;dsimp only[x22_0,x22_0d];by_cases hk':k<m
 ·have hki:(k:Int)<(m:Int):=by omega
  have w2:IntKind.i64.wrap ((k:Int)+1)=((k+1:Nat):Int):=i64_in _ (by omega);have hb:((RR k).length+1)*8≤140737488355328:=by rw[hRl];omega
  simp only[↓hcsBg8,entFst,undef,hki,w2,hf0,hRn,hb,go_sem];try simp only[hki,w2,hf0,hRn,hb,td,reduceCtorEq]
  exact ⟨k+1,by omega,by omega,rfl,rfl⟩
 obtain rfl:k=m:=by omega
 have hki:¬(k:Int)<(k:Int):=by omega
 simp only[↓hcsBg8,entFst,undef,hki,go_sem];try simp only[hki,td,reduceCtorEq]
def entB1:Ent:={ entB38 with pre:=fun x=>entBsX.pre x∧1≤List.length (α:=Int) x.2.2.2.1 }
def csB38:List Ent:=[entRr38,entHlR,entPy8,entEnS,entLsR,entFst,entBg8] theorem hcsB38 (f:FuncId):findEnt csB38 f=findEnt [entRr38,entHlR,entPy8,entEnS,entLsR,entFst,entBg8] f:=rfl
set_option maxHeartbeats 4000000 in
theorem conB1:Con Tryz.prog entB1:=by
 refine con_is (C:=csB38) u11 (by kernel_rfl) (by simp[csB38,conRr38,conHlR,conPy8,conEnS,conLsR,conFst,conBg8]) fun x hx hf=>?_;obtain ⟨⟨(N:Int),(A:List DArc),(C:List DCar),(Q:List DReq),(P:List DPair),(S1:Int),(S2:Int),(S3:Int)⟩,(ps:List DPlan),(b:Int),(o:List Int),_⟩:=x;obtain ⟨⟨⟨⟨hl,ho1⟩,ho⟩,hx⟩,hz⟩:(((ps.length≤1000∧o.length≤1000)∧(o.length≤2∨4<o.length))∧∀p∈ps,p.2.1.length≤16)∧1≤o.length:=hx;have h1:∀p∈ps,p.2.1.length≤24:=fun p hp=>by have:=hx p hp;omega
 dsimp only[entB1,entB38,entBsX,u11,Z1,Z21,Z22,Z24,Za,Zb,Zc,Ze];cases hrr:rightR38 (N,A,C,Q,P,S1,S2,S3) ps b o with
 |false=>
  have hF:=best_bad hrr;simp only[↓hcsB38,entRr38,entHlR,entPy8,entEnS,entLsR,entFst,entBg8,undef,hrr,h1,hl,ho1,hF,go_sem];try simp only[hrr,h1,hl,ho1,hF,td,reduceCtorEq]
  all_goals first|done|exact h1
 |true=>
 by_cases g4:4<o.length
 ·have hF:=best_full hrr (.inl g4);have g4':(o.length:Int)>4:=by omega
  simp only[↓hcsB38,entRr38,entHlR,entPy8,entEnS,entLsR,entFst,entBg8,undef,hrr,h1,hl,ho1,g4',hF,go_sem];try simp only[hrr,h1,hl,ho1,g4',hF,td,reduceCtorEq]
  all_goals first|done|exact h1
 have g4':¬(o.length:Int)>4:=by omega
 by_cases g3:3<(helpF ps b).length
 ·have hF:=best_full hrr (.inr g3);have g3':((helpF ps b).length:Int)>3:=by omega
  simp only[↓hcsB38,entRr38,entHlR,entPy8,entEnS,entLsR,entFst,entBg8,undef,hrr,h1,hl,ho1,g4',g3',hF,go_sem];try simp only[hrr,h1,hl,ho1,g4',g3',hF,td,reduceCtorEq]
  all_goals first|done|exact h1
 have g3':¬((helpF ps b).length:Int)>3:=by omega
 have ho2:o.length≤2:=by omega
 obtain ⟨x,F,hS,hF⟩:=best_ok hrr (fun z=>z.elim g4 g3);have hHx:∀p∈helpF ps b,p.2.1.length≤16:=fun p hp=>hx p (mem_helpF.1 hp).1;obtain ⟨hs,hH⟩:∃hs,helpF ps b=hs:=⟨_,rfl⟩;rw[hH] at g3 g3' hHx hS;have hs3:hs.length≤3:=by omega
 obtain ⟨nx0,nx1⟩:=next_ch hs3 ho2;obtain ⟨h,hh⟩:∃h:Int,(hs.length:Int)=h:=⟨_,rfl⟩;obtain ⟨f,hff⟩:∃f:Int,fstF h=f:=⟨_,rfl⟩;have hf0:(if (h:Int)=0 then (-1:Int) else 0)=f:=hff;have g3h:¬h>3:=by omega
 have hb0:(0:Int)≤(o.length:Int):=by omega
 have hb1:(o.length:Int)≤1000:=by omega
 obtain ⟨m,hm⟩:∃m,(chF hs.length o.length).length=m:=⟨_,rfl⟩;obtain ⟨co,hco⟩:∃co:Nat→Option (List Int),∀i,co i=(chF hs.length o.length)[i]?:=⟨_,fun _=>rfl⟩;have hc0:co 0=some (List.replicate o.length f):=by rw[hco,nx0,←hff,←hh]
 obtain ⟨R0,hR0⟩:∃R0,List.replicate o.length f=R0:=⟨_,rfl⟩;rw[hR0] at hc0;simp only[↓hcsB38,entRr38,entHlR,entPy8,entEnS,entLsR,entFst,entBg8,undef,hrr,h1,hl,ho1,g4',g3h,hH,hh,hff,hb0,hb1,hR0,go_sem];try simp only[hrr,h1,hl,ho1,g4',g3h,hH,hh,hff,hb0,hb1,hR0,td,reduceCtorEq]
 refine ⟨h1,?_⟩;obtain ⟨st,hst⟩:∃st:Nat→DRep,∀i,st i=stS (N,A,C,Q,P,S1,S2,S3) hs o i:=⟨_,fun _=>rfl⟩;have st0:st 0=(none,[]):=by rw[hst];rfl
 refine XW_for 2000 u11_0d [0,1,2,3] Nat (fun i=>[(17,optAV (.int .i64) (co i)),(13,optAV (.int .i64) (toO (st i).1)),(14,optAV Z22 (plO (st i).1)),(15,.val Z1 (enO (st i).1)),(16,.own 100)]) (fun i=>[(100,.row 74 Z24 (st i).2)]) (fun i=>i≤m) (fun i=>m-i) 0 ?_ ?_ ?_
 ·dsimp only[u11_0d];simp only[hc0,st0,oy,go_sem];first|done|exact ⟨rfl,rfl⟩|rfl
 ·exact Nat.zero_le _
 intro i hi;dsimp only[u11_0,u11_0d,u23,Z1,Z21,Z24,Z5,Za,Zb,Zc,Ze,Zf];have hm16:m≤16:=by
  rw[←hm,ch_len];exact Nat.le_trans (Nat.pow_le_pow_left (show hs.length+1≤4 by omega) _) (Nat.pow_le_pow_right (by decide) ho2)
 have hok:=stS_ok (N,A,C,Q,P,S1,S2,S3) hs o i (by omega);rw[←hst] at hok;by_cases hi':i<m
 case neg=>
  obtain rfl:i=m:=by omega
  have hcm:co i=none:=by rw[hco];exact List.getElem?_eq_none (by omega)
  have hsm:st i=(some x,F):=by rw[hst,←hm,stS_all];exact hS
  simp only[↓hcsB38,entRr38,entHlR,entPy8,entEnS,entLsR,entFst,entBg8,undef,hcm,hsm,oy,go_sem];try simp only[hcm,hsm,oy,td,reduceCtorEq]
  rw[hsm] at hok;have hxl:=hok.to x rfl;have hFl:=hok.len;have hFa:=hok.all;dsimp only at hFl hFa;rw[keepR_eq] at hF;refine XW_for 3000 u11_1d [0,1,2,3,100] Nat (fun j=>[(24,.val Z1 (j:Int)),(23,.own 1800)]) (fun j=>[(1800,.row 3 (.int .i64) (lostT o x.1 j))]) (fun j=>j≤o.length) (fun j=>o.length-j) 0 ?_ ?_ ?_
  ·dsimp only[u11_1d];simp only[show lostT o x.1 0=[] from rfl,go_sem];first|done|exact ⟨rfl,rfl⟩|rfl
  ·exact Nat.zero_le _
  intro j hj;dsimp only[u11_1,u11_1d];by_cases hj':j<o.length
  case pos=>
   have w1:IntKind.i64.wrap ((j:Int)+1)=((j+1:Nat):Int):=i64_in _ (by omega);have hjx:j<x.1.length:=by omega
   have hat:=lostT_at o x.1 j;have hbb:((lostT o x.1 j).length+1)*8≤140737488355328:=by have:=lostT_len o x.1 j;omega
   by_cases hneg:x.1.getD j 0<0
   ·rw[if_pos hneg] at hat;simp only[↓hcsB38,entRr38,entHlR,entPy8,entEnS,entLsR,entFst,entBg8,undef,hj',hjx,w1,hneg,hbb,go_sem];try simp only[hj',hjx,w1,hneg,hbb,td,reduceCtorEq]
    exact ⟨j+1,by omega,hj',rfl,hat.symm⟩
   ·rw[if_neg hneg] at hat;simp only[↓hcsB38,entRr38,entHlR,entPy8,entEnS,entLsR,entFst,entBg8,undef,hj',hjx,w1,hneg,hbb,go_sem];try simp only[hj',hjx,w1,hneg,hbb,td,reduceCtorEq]
    exact ⟨j+1,by omega,hj',rfl,hat.symm⟩
  obtain rfl:j=o.length:=by omega
  rw[lostT_all];simp only[↓hcsB38,entRr38,entHlR,entPy8,entEnS,entLsR,entFst,entBg8,undef,hj',go_sem];try simp only[hj',td,reduceCtorEq]
  refine XW_for 3000 u11_2d [0,1,2,3,100,1800] Nat (fun j=>[(26,.val Z1 (j:Int)),(25,.own 1801)]) (fun j=>[(1801,.row 74 Z24 (keepR x.1 (F.take j)))]) (fun j=>j≤F.length) (fun j=>F.length-j) 0 ?_ ?_ ?_
  ·dsimp only[u11_2d];simp only[show keepR x.1 (F.take 0)=[] from rfl,go_sem];first|done|exact ⟨rfl,rfl⟩|rfl
  ·exact Nat.zero_le _
  intro j hj;dsimp only[u11_2,u11_2d];by_cases hj':j<F.length
  case neg=>
   obtain rfl:j=F.length:=by omega
   rw[List.take_length];simp only[↓hcsB38,entRr38,entHlR,entPy8,entEnS,entLsR,entFst,entBg8,undef,hj',hF,go_sem];try simp only[hj',hF,td,reduceCtorEq]
  have w1:IntKind.i64.wrap ((j:Int)+1)=((j+1:Nat):Int):=i64_in _ (by omega);have hat:=keepR_at (b:=x.1) hj';have hcl:=hFa (F.getD j dCase) (by simp[List.getD,hj']);have hbb:((keepR x.1 (F.take j)).length+1)*32≤140737488355328:=by
   have h1:=keepR_len x.1 (F.take j);rw[List.length_take] at h1;omega
  dsimp only[dCase] at hat hcl;obtain ⟨⟨ct,ca⟩,hC⟩:∃c:DCase,F.getD j ([],0)=c:=⟨_,rfl⟩;rw[hC] at hat hcl;dsimp only at hat hcl;have hc1:ct.length≤1000:=by omega
  have hc2:x.1.length=ct.length:=by omega
  by_cases hneg:lessR ct x.1<0
  ·rw[if_pos hneg] at hat;simp only[↓hcsB38,entRr38,entHlR,entPy8,entEnS,entLsR,entFst,entBg8,undef,hj',hC,hc1,hc2,w1,hneg,hbb,go_sem];try simp only[hj',hC,hc1,hc2,w1,hneg,hbb,td,reduceCtorEq]
   exact ⟨j+1,by omega,hj',rfl,hat.symm⟩
  ·rw[if_neg hneg] at hat;simp only[↓hcsB38,entRr38,entHlR,entPy8,entEnS,entLsR,entFst,entBg8,undef,hj',hC,hc1,hc2,w1,hneg,hbb,go_sem];try simp only[hj',hC,hc1,hc2,w1,hneg,hbb,td,reduceCtorEq]
   exact ⟨j+1,by omega,hj',rfl,hat.symm⟩
 obtain ⟨t,ht⟩:∃t,(chF hs.length o.length).getD i []=t:=⟨_,rfl⟩;have hci:co i=some t:=by rw[hco,←ht];simp[List.getD,show i<(chF hs.length o.length).length by omega]
 obtain ⟨htl,htb⟩:=ch_at (h:=hs.length) (n:=o.length) (i:=i) (by omega);have hsn:st (i+1)=stepR (N,A,C,Q,P,S1,S2,S3) hs o (st i) t:=by rw[hst,hst,←ht];exact stS_next (by omega)
 have hnx:=nx1 i (by omega);rw[ht] at htl htb hnx;rw[hh,←hco] at hnx;have htne:t≠[]:=fun z=>by rw[z] at htl;simp at htl;omega
 obtain ⟨⟨p,a⟩,hP⟩:∃r,playR (N,A,C,Q,P,S1,S2,S3) hs o t 0=r:=⟨_,rfl⟩;have hpr:=play_rng (N,A,C,Q,P,S1,S2,S3) o t hs 0;have hpl:=play_len (N,A,C,Q,P,S1,S2,S3) o t hs 0 (Int.le_refl _);rw[hP] at hpr hpl;dsimp only at hpr hpl;obtain ⟨n,hn⟩:∃n,endsR (N,A,C,Q,P,S1,S2,S3) p=n:=⟨_,rfl⟩;obtain ⟨⟨a1,fs⟩,hSi⟩:∃r,st i=r:=⟨_,rfl⟩;rw[hSi] at hok hsn;unfold stepR at hsn;rw[hP] at hsn;dsimp only at hsn;rw[hn] at hsn;have hfl:(fs.length+1)*32≤140737488355328:=by have:=hok.len;dsimp only at this;omega
 have ht1:t.length≤1000:=by omega
 have ht2:hs.length≤1000:=by omega
 have ht3:o.length≤2:=ho2;have hbs:(t.length)*8≤140737488355328:=by omega
 have key:(a≥0∧st (i+1)=(a1,fs++[(t,a)]))∨(¬a≥0∧p.length≤1000∧a1=none∧st (i+1)=(some (t,p,n),fs))∨∃bt ba be,a1=some (bt,ba,be)∧¬a≥0∧p.length≤1000∧(bt.length=t.length∧bt≠[])∧(lessR t bt<0∧st (i+1)=(some (t,p,n),fs)∨¬lessR t bt<0∧(¬lessR t bt=0∧st (i+1)=(some (bt,ba,be),fs)∨lessR t bt=0∧(n<be∧st (i+1)=(some (t,p,n),fs)∨¬n<be∧st (i+1)=(some (bt,ba,be),fs)))):=by
  by_cases g:0≤a
  ·rw[if_pos g] at hsn;exact .inl ⟨g,hsn⟩
  rw[if_neg g] at hsn;have hp3:p.length≤1000:=by rw[hpl (by omega)];omega
  cases a1 with
  |none=>exact .inr (.inl ⟨g,hp3,rfl,hsn⟩)
  |some y=>
   obtain ⟨bt,ba,be⟩:=y;refine .inr (.inr ⟨bt,ba,be,rfl,g,hp3,⟨(hok.to _ rfl).trans htl.symm,fun z=>?_⟩,?_⟩)
   ·have:=hok.to _ rfl;rw[z] at this;simp at this;omega
   by_cases c1:lessR t bt<0
   ·exact .inl ⟨c1,by rw[hsn,leafR_y (.inl c1)]⟩
   refine .inr ⟨c1,?_⟩;by_cases c2:lessR t bt=0
   ·refine .inr ⟨c2,?_⟩;by_cases c3:n<be
    ·exact .inl ⟨c3,by rw[hsn,leafR_y (.inr ⟨c2,c3⟩)]⟩
    ·exact .inr ⟨c3,by rw[hsn,leafR_n (fun z=>z.elim c1 fun z=>c3 z.2)]⟩
   ·exact .inl ⟨c2,by rw[hsn,leafR_n (fun z=>z.elim c1 fun z=>c2 z.1)]⟩
 clear hsn;rw[hh] at htb;have hw0:IntKind.i64.wrap ((o.length:Int)-1)=(o.length:Int)-1:=i64_in _ (by omega);have hb8:(0+o.length)*8≤140737488355328:=by omega
 have n00:¬(0:Int)<0:=by decide
 rcases key with ⟨q1,hs1⟩|⟨q1,q0,rfl,hs1⟩|⟨bt,ba,be,rfl,q1,q0,⟨qb,qn⟩,⟨q2,hs1⟩|⟨q2,⟨q3,hs1⟩|⟨q3,⟨q4,hs1⟩|⟨q4,hs1⟩⟩⟩⟩
 all_goals (
  first
   |simp only[↓hcsB38,entRr38,entHlR,entPy8,entEnS,entLsR,entFst,entBg8,undef,n00,hb8,ho1,hci,hSi,optI_some,htne,hP,htl,htb,ht1,ht2,ht3,hHx,hn,hfl,hbs,hh,q0,q1,qb,qn,q2,q3,q4,oy,go_sem];try simp only[↓hcsB38,entRr38,entHlR,entPy8,entEnS,entLsR,entFst,entBg8,undef,n00,hb8,ho1,hci,hSi,optI_some,htne,hP,htl,htb,ht1,ht2,ht3,hHx,hn,hfl,hbs,hh,q0,q1,qb,qn,q2,q3,q4,oy,td,reduceCtorEq]
   |simp only[↓hcsB38,entRr38,entHlR,entPy8,entEnS,entLsR,entFst,entBg8,undef,n00,hb8,ho1,hci,hSi,optI_some,htne,hP,htl,htb,ht1,ht2,ht3,hHx,hn,hfl,hbs,hh,q0,q1,qb,qn,q2,q3,oy,go_sem];try simp only[↓hcsB38,entRr38,entHlR,entPy8,entEnS,entLsR,entFst,entBg8,undef,n00,hb8,ho1,hci,hSi,optI_some,htne,hP,htl,htb,ht1,ht2,ht3,hHx,hn,hfl,hbs,hh,q0,q1,qb,qn,q2,q3,oy,td,reduceCtorEq]
   |simp only[↓hcsB38,entRr38,entHlR,entPy8,entEnS,entLsR,entFst,entBg8,undef,n00,hb8,ho1,hci,hSi,optI_some,htne,hP,htl,htb,ht1,ht2,ht3,hHx,hn,hfl,hbs,hh,q0,q1,qb,qn,q2,oy,go_sem];try simp only[↓hcsB38,entRr38,entHlR,entPy8,entEnS,entLsR,entFst,entBg8,undef,n00,hb8,ho1,hci,hSi,optI_some,htne,hP,htl,htb,ht1,ht2,ht3,hHx,hn,hfl,hbs,hh,q0,q1,qb,qn,q2,oy,td,reduceCtorEq]
   |simp only[↓hcsB38,entRr38,entHlR,entPy8,entEnS,entLsR,entFst,entBg8,undef,n00,hb8,ho1,hci,hSi,optI_some,htne,hP,htl,htb,ht1,ht2,ht3,hHx,hn,hfl,hbs,hh,q0,q1,oy,go_sem];try simp only[↓hcsB38,entRr38,entHlR,entPy8,entEnS,entLsR,entFst,entBg8,undef,n00,hb8,ho1,hci,hSi,optI_some,htne,hP,htl,htb,ht1,ht2,ht3,hHx,hn,hfl,hbs,hh,q0,q1,oy,td,reduceCtorEq]
   |simp only[↓hcsB38,entRr38,entHlR,entPy8,entEnS,entLsR,entFst,entBg8,undef,n00,hb8,ho1,hci,hSi,optI_some,htne,hP,htl,htb,ht1,ht2,ht3,hHx,hn,hfl,hbs,hh,q1,oy,go_sem];try simp only[↓hcsB38,entRr38,entHlR,entPy8,entEnS,entLsR,entFst,entBg8,undef,n00,hb8,ho1,hci,hSi,optI_some,htne,hP,htl,htb,ht1,ht2,ht3,hHx,hn,hfl,hbs,hh,q1,oy,td,reduceCtorEq]
  refine ⟨⟨hHx,htb⟩,?_⟩
  refine XW_for 3000 u23_0d [0,1,2,3] Nat (fun k=>[(6,.val Z1 (((o.length-k:Nat):Int)-1)),(5,.own 1900),(59,.own 1901)]) (fun k=>[(1900,.row 3 (.int .i64) (rowN h t k)),(1901,.row 74 Z24 (st (i+1)).2)]) (fun k=>k≤o.length∧∀j,o.length-k≤j→j<o.length→t.getD j 0<0) (fun k=>o.length-k) 0 ?_ ?_ ?_
  ·dsimp only[u23_0d]
   simp only[hs1,rowN_zero,hw0,Nat.sub_zero,oy,go_sem]
   first|done|exact ⟨rfl,rfl⟩|rfl
  ·exact ⟨Nat.zero_le _,fun j h1 h2=>absurd h2 (by omega)⟩
  rintro k ⟨hk,hneg⟩
  dsimp only[u23_0,u23_0d]
  by_cases hk':k<o.length
  case neg=>
   have hke:((o.length-k:Nat):Int)-1= -1:=by omega
   have hge:¬(-1:Int)≥0:=by decide
   have hno:co (i+1)=none:=by rw[←hnx];exact next_end fun j hj=>hneg j (by omega) (by omega)
   simp only[↓hcsB38,entRr38,entHlR,entPy8,entEnS,entLsR,entFst,entBg8,undef,hke,hge,oy,go_sem]
   try simp only[hke,hge,oy,td,reduceCtorEq]
   refine ⟨i+1,by omega,by omega,?_⟩
   simp only[hno,hs1,oy,go_sem]
   first|done|exact ⟨rfl,rfl⟩|rfl
  obtain ⟨v,hv⟩:∃v:Nat,t.length=v+1+k:=⟨o.length-1-k,by omega⟩
  have hke:((o.length-k:Nat):Int)-1=(v:Int):=by omega
  have hvo:v<o.length:=by omega
  have hv0:(v:Int)≥0:=by omega
  have hri:=rowN_is (h:=h) hv
  have hsl:=setN_len (h:=h) (show k<t.length by omega)
  rw[htl] at hsl
  have hsg:=setN_get (h:=h) hv
  have hss:=setN_set (h:=h) hv
  have hnr:=next_row (h:=h) hv (fun j h1 h2=>hneg j (by omega) (by omega))
  rw[hnx] at hnr
  have htv:=htb (t.getD v 0) (by simp[List.getD,show v<t.length by omega])
  obtain ⟨d,hd⟩:∃d,t.getD v 0=d:=⟨_,rfl⟩
  rw[hd] at hri hnr htv
  have hwk:IntKind.i64.wrap ((v:Int)-1)=((o.length-(k+1):Nat):Int)-1:=by
   rw[show ((o.length-(k+1):Nat):Int)-1=(v:Int)-1 by omega];exact i64_in _ (by omega)
  by_cases hd0:d≥0
  ·have hwd:IntKind.i64.wrap (d+1)=d+1:=i64_in _ (by omega)
   have hnr:=hnr hd0
   by_cases hdh:d+1≥h
   ·rw[if_pos hdh] at hnr
    simp only[↓hcsB38,entRr38,entHlR,entPy8,entEnS,entLsR,entFst,entBg8,undef,hke,hv0,hvo,hri,hsl,hsg,hss,hd0,hwd,hdh,oy,go_sem]
    try simp only[hke,hv0,hvo,hri,hsl,hsg,hss,hd0,hwd,hdh,oy,td,reduceCtorEq]
    refine ⟨i+1,by omega,by omega,?_⟩
    simp only[hnr,hs1,oy,go_sem]
    first|done|exact ⟨rfl,rfl⟩|rfl
   ·rw[if_neg hdh] at hnr
    simp only[↓hcsB38,entRr38,entHlR,entPy8,entEnS,entLsR,entFst,entBg8,undef,hke,hv0,hvo,hri,hsl,hsg,hss,hd0,hwd,hdh,oy,go_sem]
    try simp only[hke,hv0,hvo,hri,hsl,hsg,hss,hd0,hwd,hdh,oy,td,reduceCtorEq]
    refine ⟨i+1,by omega,by omega,?_⟩
    simp only[hnr,hs1,oy,go_sem]
    first|done|exact ⟨rfl,rfl⟩|rfl
  simp only[↓hcsB38,entRr38,entHlR,entPy8,entEnS,entLsR,entFst,entBg8,undef,hke,hv0,hvo,hri,hsl,hsg,hss,hd0,hf0,hwk,oy,go_sem]
  try simp only[hke,hv0,hvo,hri,hsl,hsg,hss,hd0,hf0,hwk,oy,td,reduceCtorEq]
  refine ⟨k+1,by omega,⟨by omega,fun j h1 h2=>?_⟩,rfl,?_⟩
  ·rcases Nat.eq_or_lt_of_le (show v≤j by omega) with q|q
   ·rw[←q,hd];omega
   ·exact hneg j (by omega) h2
  ·rw[←hff];rfl)
end T
end Go.Proofs.YtpocfbfmjippnaaGreat
end
