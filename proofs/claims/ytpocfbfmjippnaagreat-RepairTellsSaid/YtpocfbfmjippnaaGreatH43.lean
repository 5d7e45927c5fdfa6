/- Parts of the proof of the law; no condition. -/
import Derived.Test.YtpocfbfmjippnaaGreatH42
set_option linter.all false
section
namespace Go.Proofs.YtpocfbfmjippnaaGreat
open Go.RowKit Go.IntWalk
namespace T
def entBsR:Ent:=⟨76,.cons Z21 (.cons Z22 (.cons Z1 .nil)),.cons Z22 (.cons Z1 (.cons Z1 (.cons Z30 (.cons Z1 .nil)))),true,none,fun x=>List.length (α:=DStop) (x.2.1:DPlan).2.1≤20,fun x=>((bestF x.1 x.2.1 x.2.2.1).1,(bestF x.1 x.2.1 x.2.2.1).2.1,(bestF x.1 x.2.1 x.2.2.1).2.2.1,(bestF x.1 x.2.1 x.2.2.1).2.2.2.1,(bestF x.1 x.2.1 x.2.2.1).2.2.2.2,())⟩
def csBsR:List Ent:=[entRR20,entNmd,entCkR,entRst21,entMkR,entEnR] theorem hcsBsR (f:FuncId):findEnt csBsR f=findEnt [entRR20,entNmd,entCkR,entRst21,entMkR,entEnR] f:=rfl
set_option maxHeartbeats 4000000 in
theorem conBsR:Con Tryz.prog entBsR:=by
 refine con_is (C:=csBsR) x76 (by kernel_rfl) (by simp[csBsR,conRR20,conNmd,conCkR,conRst21,conMkR,conEnR]) fun x hx hf=>?_;obtain ⟨⟨(N:Int),(A:List DArc),(C:List DCar),(Q:List DReq),(R:List DPair),(S1:Int),(S2:Int),(S3:Int)⟩,⟨(c:Int),(ss:List DStop),(L:List DLeg),(G:List Int)⟩,(r:Int),_⟩:=x;have hl:ss.length≤20:=hx;dsimp only[entBsR,x76];have hEd:errI (N,A,C,Q,R,S1,S2,S3) (c,ss,L,G) r=if rightP (N,A,C,Q,R,S1,S2,S3)=false∨checkP (N,A,C,Q,R,S1,S2,S3) (c,ss,L,G)≠0∨r<0∨(Q.length:Int)≤r∨namedI ss r=true then 1 else 0:=rfl
 have h78:¬(ss.length:Int)>78:=by omega
 by_cases hE:rightP (N,A,C,Q,R,S1,S2,S3)=false∨checkP (N,A,C,Q,R,S1,S2,S3) (c,ss,L,G)≠0∨r<0∨(Q.length:Int)≤r∨namedI ss r=true
 ·rw[if_pos hE] at hEd;have hB:bestF (N,A,C,Q,R,S1,S2,S3) (c,ss,L,G) r=(noPlan,0,0,[],1):=by unfold bestF;rw[hEd,if_pos (by decide)]
  cases h1:rightP (N,A,C,Q,R,S1,S2,S3)
  ·simp only[↓hcsBsR,entRR20,entNmd,entCkR,entRst21,entMkR,entEnR,undef,hB,noPlan,h1,go_sem];try simp only[hB,noPlan,h1,td,reduceCtorEq]
  by_cases h3:r<0
  ·simp only[↓hcsBsR,entRR20,entNmd,entCkR,entRst21,entMkR,entEnR,undef,hB,noPlan,h1,h3,go_sem];try simp only[hB,noPlan,h1,h3,td,reduceCtorEq]
  by_cases h4:(Q.length:Int)≤r
  ·have h4':r≥(Q.length:Int):=h4;simp only[↓hcsBsR,entRR20,entNmd,entCkR,entRst21,entMkR,entEnR,undef,hB,noPlan,h1,h3,h4,h4',go_sem];try simp only[hB,noPlan,h1,h3,h4,h4',td,reduceCtorEq]
  have h4':¬r≥(Q.length:Int):=h4;cases h5:namedI ss r
  ·have h2:¬checkP (N,A,C,Q,R,S1,S2,S3) (c,ss,L,G)=0:=by
    rcases hE with q|q|q|q|q
    ·rw[h1] at q;cases q
    ·exact q
    ·exact absurd q h3
    ·exact absurd q h4
    ·rw[h5] at q;cases q
   simp only[↓hcsBsR,entRR20,entNmd,entCkR,entRst21,entMkR,entEnR,undef,hB,noPlan,h1,h2,h3,h4,h4',h5,go_sem];try simp only[hB,noPlan,h1,h2,h3,h4,h4',h5,td,reduceCtorEq]
  ·simp only[↓hcsBsR,entRR20,entNmd,entCkR,entRst21,entMkR,entEnR,undef,hB,noPlan,h1,h3,h4,h4',h5,go_sem];try simp only[hB,noPlan,h1,h3,h4,h4',h5,td,reduceCtorEq]
 rw[if_neg hE] at hEd;have h1:rightP (N,A,C,Q,R,S1,S2,S3)=true:=by
  rw[←Bool.not_eq_false];exact fun z=>hE (.inl z)
 have h2:checkP (N,A,C,Q,R,S1,S2,S3) (c,ss,L,G)=0:=Decidable.not_not.1 fun z=>hE (.inr (.inl z));have h3:¬r<0:=fun z=>hE (.inr (.inr (.inl z)));have h4:¬(Q.length:Int)≤r:=fun z=>hE (.inr (.inr (.inr (.inl z))));have h4':¬r≥(Q.length:Int):=h4;have h5:namedI ss r=false:=by
  rw[←Bool.not_eq_true];exact fun z=>hE (.inr (.inr (.inr (.inr z))))
 have hE:errI (N,A,C,Q,R,S1,S2,S3) (c,ss,L,G) r=0:=hEd;obtain ⟨LL,hLL⟩:∃LL,linesI (N,A,C,Q,R,S1,S2,S3) (c,ss,L,G) r=LL:=⟨_,rfl⟩;have hlen:=lines_len (N,A,C,Q,R,S1,S2,S3) (c,ss,L,G) r;rw[hLL] at hlen;dsimp only at hlen;have hoff:∀j,j≤21→offI ss.length j≤441:=fun j hj=>Nat.le_trans (offI_le _ _) (Nat.le_trans (Nat.mul_le_mul (show ss.length+1≤21 by omega) hj) (by decide));have hat:∀j i,j≤ss.length→i<ss.length+1-j→LL.getD (offI ss.length j+i) dPlace=lineI (N,A,C,Q,R,S1,S2,S3) (c,ss,L,G) r j (j+i)∧offI ss.length j+i<LL.length:=fun j i hj hi=>by
  have:=lines_at (N,A,C,Q,R,S1,S2,S3) (c,ss,L,G) r hj hi;rw[hLL] at this;exact this.2
 have hF:bestF (N,A,C,Q,R,S1,S2,S3) (c,ss,L,G) r=if atN LL LL.length<0 then (noPlan,0,0,LL,4) else (planI (N,A,C,Q,R,S1,S2,S3) (c,ss,L,G) r (LL.getD (atN LL LL.length).toNat dPlace),(LL.getD (atN LL LL.length).toNat dPlace).1,(LL.getD (atN LL LL.length).toNat dPlace).2.1,LL,0):=by
  unfold bestF;rw[if_neg (Decidable.not_not.2 hE),hLL]
 simp only[↓hcsBsR,entRR20,entNmd,entCkR,entRst21,entMkR,entEnR,undef,h1,h2,h3,h4,h4',h5,h78,go_sem];try simp only[h1,h2,h3,h4,h4',h5,h78,td,reduceCtorEq]
 refine XW_for 1000 x76_0d [0,1,2,5] Nat (fun j=>[(12,.val Z1 (j:Int)),(11,.own 35)]) (fun j=>[(35,.row 177 Z31 (LL.take (offI ss.length j)))])
  (fun j=>j≤ss.length+1) (fun j=>ss.length+1-j) 0 ?_ ?_ ?_
 ·dsimp only[x76_0d];simp only[go_sem];exact ⟨rfl,rfl⟩
 ·exact Nat.zero_le _
 intro j hj;dsimp only[x76_0,x76_0d];by_cases hj':j<ss.length+1
 ·have hjle:(j:Int)≤(ss.length:Int):=by omega
  have hjle':j≤ss.length:=by omega
  simp only[↓hcsBsR,entRR20,entNmd,entCkR,entRst21,entMkR,entEnR,undef,hjle,hjle',go_sem];try simp only[hjle,hjle',td,reduceCtorEq]
  refine XW_for 2000 x76_1d [0,1,2,5] Nat (fun i=>[(13,.val Z1 ((j+i:Nat):Int)),(11,.own 35)])
   (fun i=>[(35,.row 177 Z31 (LL.take (offI ss.length j+i)))]) (fun i=>i≤ss.length+1-j) (fun i=>ss.length+1-j-i) 0 ?_ ?_ ?_
  ·dsimp only[x76_1d];simp only[go_sem];try trivial
  ·exact Nat.zero_le _
  intro i hi;dsimp only[x76_1,x76_1d];by_cases hi':i<ss.length+1-j
  ·obtain ⟨hline,hkl⟩:=hat j i (by omega) hi';have hji:((j+i:Nat):Int)≤(ss.length:Int):=by omega
   have hji':j+i≤ss.length:=by omega
   have w2:IntKind.i64.wrap (((j+i:Nat):Int)+1)=((j+(i+1):Nat):Int):=(i64_in _ (by omega)).trans (by omega);have hl3:ss.length≤1000:=by omega
   have hoj:=hoff j (by omega);have hkb:offI ss.length j+i≤500:=by omega
   have htl:(LL.take (offI ss.length j+i)).length=offI ss.length j+i:=by rw[List.length_take];omega
   have hts:LL.take (offI ss.length j+i)++[LL.getD (offI ss.length j+i) dPlace]=LL.take (offI ss.length j+(i+1)):=by
    rw[←Nat.add_assoc,List.take_succ_eq_append_getElem hkl,List.getD_eq_getElem?_getD,List.getElem?_eq_getElem hkl];rfl
   rw[hline] at hts;generalize offI ss.length j+i=k at*;by_cases hm:(makeF (N,A,C,Q,R,S1,S2,S3) c (stopsI ss r (j:Int) ((j+i:Nat):Int))).2=0
   ·have hlo:=(line_ok (w:=(N,A,C,Q,R,S1,S2,S3)) (p:=(c,ss,L,G)) (r:=r) (a:=j) (b:=j+i) hm).2.2;obtain ⟨⟨⟨q1,q2,q3,q4⟩,e⟩,hmk⟩:∃X:DPlan×Int,makeF (N,A,C,Q,R,S1,S2,S3) c (stopsI ss r (j:Int) ((j+i:Nat):Int))=X:=⟨_,rfl⟩;obtain ⟨t,htt⟩:∃t,(endP (N,A,C,Q,R,S1,S2,S3) (makeF (N,A,C,Q,R,S1,S2,S3) c (stopsI ss r (j:Int) ((j+i:Nat):Int))).1).1=t:=⟨_,rfl⟩;have hen:endP (N,A,C,Q,R,S1,S2,S3) (makeF (N,A,C,Q,R,S1,S2,S3) c (stopsI ss r (j:Int) ((j+i:Nat):Int))).1=(t,0):=Prod.ext htt (line_ok (w:=(N,A,C,Q,R,S1,S2,S3)) (p:=(c,ss,L,G)) (r:=r) (a:=j) (b:=j+i) hm).2.1;have hlo':lineI (N,A,C,Q,R,S1,S2,S3) (c,ss,L,G) r j (j+i)=((j:Int),((j+i:Nat):Int),0,t):=hlo.trans (by rw[←htt]);rw[hlo'] at hts;rw[hmk] at hm hen;dsimp only at hm;subst hm;simp only[↓hcsBsR,entRR20,entNmd,entCkR,entRst21,entMkR,entEnR,undef,hji,hji',w2,hmk,hen,hl3,htl,go_sem];try simp only[hji,hji',w2,hmk,hen,hl3,htl,td,reduceCtorEq]
    exact ⟨by omega,i+1,by omega,by omega,rfl,hts⟩
   ·have hln:=line_no (w:=(N,A,C,Q,R,S1,S2,S3)) (p:=(c,ss,L,G)) (r:=r) (a:=j) (b:=j+i) hm;obtain ⟨⟨⟨q1,q2,q3,q4⟩,e⟩,hmk⟩:∃X:DPlan×Int,makeF (N,A,C,Q,R,S1,S2,S3) c (stopsI ss r (j:Int) ((j+i:Nat):Int))=X:=⟨_,rfl⟩;have hln':lineI (N,A,C,Q,R,S1,S2,S3) (c,ss,L,G) r j (j+i)=((j:Int),((j+i:Nat):Int),e,0):=hln.trans (by rw[hmk]);rw[hln'] at hts;rw[hmk] at hm;dsimp only at hm;simp only[↓hcsBsR,entRR20,entNmd,entCkR,entRst21,entMkR,entEnR,undef,hji,hji',w2,hmk,hl3,hm,htl,go_sem];try simp only[hji,hji',w2,hmk,hl3,hm,htl,td,reduceCtorEq]
    exact ⟨by omega,i+1,by omega,by omega,rfl,hts⟩
  ·obtain rfl:i=ss.length+1-j:=by omega
   have hji:¬((j+(ss.length+1-j):Nat):Int)≤(ss.length:Int):=by omega
   have hji':¬j+(ss.length+1-j)≤ss.length:=by omega
   have w2:IntKind.i64.wrap ((j:Int)+1)=((j+1:Nat):Int):=i64_in _ (by omega);have hoe:offI ss.length j+(ss.length+1-j)=offI ss.length (j+1):=rfl;simp only[↓hcsBsR,entRR20,entNmd,entCkR,entRst21,entMkR,entEnR,undef,hji,hji',w2,hoe,go_sem];try simp only[hji,hji',w2,hoe,td,reduceCtorEq]
   exact ⟨j+1,by omega,by omega,rfl,rfl⟩
 obtain rfl:j=ss.length+1:=by omega
 have hjle:¬((ss.length+1:Nat):Int)≤(ss.length:Int):=by omega
 have hjle':¬ss.length+1≤ss.length:=by omega
 rw[←hlen,List.take_length];have hLn:LL.length≤441:=by rw[hlen];exact hoff _ (by omega)
 have w0:IntKind.i64.wrap ((LL.length:Int)-1)=(LL.length:Int)-1:=i64_in _ (by omega);simp only[↓hcsBsR,entRR20,entNmd,entCkR,entRst21,entMkR,entEnR,undef,hjle,hjle',w0,go_sem];try simp only[hjle,hjle',w0,td,reduceCtorEq]
 refine XW_for 3000 x76_2d [0,1,2,5,35] Nat (fun k=>[(20,.val Z1 ((LL.length:Int)-1-k)),(19,.val Z1 (btN LL k))]) (fun _=>[]) (fun k=>k≤LL.length) (fun k=>LL.length-k) 0 ?_ ?_ ?_
 ·dsimp only[x76_2d];simp only[go_sem];exact ⟨(Int.sub_zero _).symm,rfl⟩
 ·exact Nat.zero_le _
 intro k hk;dsimp only[x76_2,x76_2d];by_cases hk':k<LL.length
 ·obtain ⟨i,hi⟩:∃i:Nat,LL.length-1-k=i:=⟨_,rfl⟩;have hii:(LL.length:Int)-1-k=(i:Int):=by omega
  have hin:i<LL.length:=by omega
  have w2:IntKind.i64.wrap ((i:Int)-1)=(LL.length:Int)-1-((k+1:Nat):Int):=(i64_in _ (by omega)).trans (by omega);have hi0:(i:Int)≥0:=by omega
  have hi0':(0:Int)≤(i:Int):=by omega
  have hrng:=btN_rng LL hk;have hBs:btN LL (k+1)=if (LL.getD (LL.length-1-k) dPlace).2.2.1=0∧(btN LL k<0∨(LL.getD (LL.length-1-k) dPlace).2.2.2≤(LL.getD (btN LL k).toNat dPlace).2.2.2) then ((LL.length-1-k:Nat):Int) else btN LL k:=rfl
  rw[hi] at hBs;rw[hii];by_cases c1:(LL.getD i dPlace).2.2.1=0
  ·rcases Int.lt_or_le (btN LL k) 0 with c2|c2
   ·rw[if_pos ⟨c1,.inl c2⟩] at hBs;simp only[↓hcsBsR,entRR20,entNmd,entCkR,entRst21,entMkR,entEnR,undef,hin,w2,hi0,hi0',c1,c2,go_sem];try simp only[hin,w2,hi0,hi0',c1,c2,td,reduceCtorEq]
    exact ⟨k+1,by omega,by omega,rfl,hBs.symm⟩
   ·obtain ⟨m,hmn⟩:∃m:Nat,btN LL k=m:=⟨(btN LL k).toNat,by omega⟩;have hm1:m<LL.length:=by omega
    have hm2:¬(m:Int)<0:=by omega
    have hm4:(0:Int)≤(m:Int):=by omega
    rw[hmn,Int.toNat_natCast] at hBs;by_cases ht:(LL.getD i dPlace).2.2.2≤(LL.getD m dPlace).2.2.2
    ·rw[if_pos ⟨c1,.inr ht⟩] at hBs;simp only[↓hcsBsR,entRR20,entNmd,entCkR,entRst21,entMkR,entEnR,undef,hin,w2,hi0,hi0',c1,hmn,hm1,hm2,hm4,ht,go_sem];try simp only[hin,w2,hi0,hi0',c1,hmn,hm1,hm2,hm4,ht,td,reduceCtorEq]
     exact ⟨k+1,by omega,by omega,rfl,hBs.symm⟩
    ·rw[if_neg (by rintro ⟨_,z|z⟩;exact hm2 z;exact ht z)] at hBs;simp only[↓hcsBsR,entRR20,entNmd,entCkR,entRst21,entMkR,entEnR,undef,hin,w2,hi0,hi0',c1,hmn,hm1,hm2,hm4,ht,go_sem];try simp only[hin,w2,hi0,hi0',c1,hmn,hm1,hm2,hm4,ht,td,reduceCtorEq]
     exact ⟨k+1,by omega,by omega,rfl,hBs.symm⟩
  ·rw[if_neg (fun z=>c1 z.1)] at hBs;simp only[↓hcsBsR,entRR20,entNmd,entCkR,entRst21,entMkR,entEnR,undef,hin,w2,hi0,hi0',c1,go_sem];try simp only[hin,w2,hi0,hi0',c1,td,reduceCtorEq]
   exact ⟨k+1,by omega,by omega,rfl,hBs.symm⟩
 ·obtain rfl:k=LL.length:=by omega
  have hkz:(LL.length:Int)-1-LL.length= -1:=by omega
  have hb:=bt_at LL;have hrng:=atN_rng LL LL.length;rw[hkz,hb];have hz1:¬(0:Int)≤ -1:=by decide
  have hz2:¬(-1:Int)≥0:=by decide
  have hz3:(-1:Int)<0:=by decide
  rcases Int.lt_or_le (atN LL LL.length) 0 with c2|c2
  ·rw[if_pos c2] at hF;simp only[↓hcsBsR,entRR20,entNmd,entCkR,entRst21,entMkR,entEnR,undef,hF,noPlan,c2,hz1,hz2,hz3,go_sem];try simp only[hF,noPlan,c2,hz1,hz2,hz3,td,reduceCtorEq]
  ·obtain ⟨m,hmn⟩:∃m:Nat,atN LL LL.length=m:=⟨(atN LL LL.length).toNat,by omega⟩;have hm1:m<LL.length:=by omega
   have hm2:¬(m:Int)<0:=by omega
   have hm4:(0:Int)≤(m:Int):=by omega
   rw[hmn,if_neg hm2,Int.toNat_natCast] at hF;rw[hmn];have hl3:ss.length≤1000:=by omega
   simp only[↓hcsBsR,entRR20,entNmd,entCkR,entRst21,entMkR,entEnR,undef,hF,hm1,hm2,hm4,hl3,hz1,hz2,hz3,go_sem];try simp only[hF,hm1,hm2,hm4,hl3,hz1,hz2,hz3,td,reduceCtorEq]
   rfl
end T
end Go.Proofs.YtpocfbfmjippnaaGreat
end
