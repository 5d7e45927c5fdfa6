/- Parts of the proof of the law; no condition. -/
import Derived.Test.YtpocfbfmjippnaaGreatH37
set_option linter.all false
section
namespace Go.Proofs.YtpocfbfmjippnaaGreat
open Go.RowKit Go.IntWalk
namespace T
def entBst:Ent:=⟨50,.cons Z21 (.cons Z22 (.cons Z1 .nil)),.cons Z22 (.cons Z1 (.cons Z1 (.cons Z30 (.cons Z1 .nil)))),true,none,fun x=>List.length (α:=DStop) (x.2.1:DPlan).2.1≤20,fun x=>((bestF x.1 x.2.1 x.2.2.1).1,(bestF x.1 x.2.1 x.2.2.1).2.1,(bestF x.1 x.2.1 x.2.2.1).2.2.1,(bestF x.1 x.2.1 x.2.2.1).2.2.2.1,(bestF x.1 x.2.1 x.2.2.1).2.2.2.2,())⟩
def csBst:List Ent:=[entErr,entIst,entMk,entEnd] theorem hcsBst (f:FuncId):findEnt csBst f=findEnt [entErr,entIst,entMk,entEnd] f:=rfl
set_option maxHeartbeats 4000000 in
theorem conBst:Con Tryz.prog entBst:=by
 refine con_is (C:=csBst) x50 (by kernel_rfl) (by simp[csBst,conErr,conIst,conMk,conEnd]) fun x hx hf=>?_;obtain ⟨⟨(N:Int),(A:List DArc),(C:List DCar),(Q:List DReq),(R:List DPair),(S1:Int),(S2:Int),(S3:Int)⟩,⟨(c:Int),(ss:List DStop),(L:List DLeg),(G:List Int)⟩,(r:Int),_⟩:=x;have hl:ss.length≤20:=hx;have hl2:ss.length≤22:=by omega
 obtain ⟨w,hw⟩:∃w:DWorld,(N,A,C,Q,R,S1,S2,S3)=w:=⟨_,rfl⟩;obtain ⟨p,hp⟩:∃p:DPlan,(c,ss,L,G)=p:=⟨_,rfl⟩;dsimp only[entBst,x50];by_cases hE:errI (N,A,C,Q,R,S1,S2,S3) (c,ss,L,G) r=0
 ·obtain ⟨LL,hLL⟩:∃LL,linesI (N,A,C,Q,R,S1,S2,S3) (c,ss,L,G) r=LL:=⟨_,rfl⟩;obtain ⟨B,hBB⟩:∃B:Nat→DPlan,∀k,B k=bestN (N,A,C,Q,R,S1,S2,S3) (c,ss,L,G) r LL k:=⟨_,fun k=>rfl⟩;have hlen:=lines_len (N,A,C,Q,R,S1,S2,S3) (c,ss,L,G) r;rw[hLL] at hlen;dsimp only at hlen;have hoff:∀j,j≤21→offI ss.length j≤441:=fun j hj=>Nat.le_trans (offI_le _ _) (Nat.le_trans (Nat.mul_le_mul (show ss.length+1≤21 by omega) hj) (by decide));have w1:IntKind.i64.wrap ((ss.length:Int)+1)=((ss.length+1:Nat):Int):=i64_in _ (by omega);have hat:∀j i,j≤ss.length→i<ss.length+1-j→LL.getD (offI ss.length j+i) dPlace=lineI (N,A,C,Q,R,S1,S2,S3) (c,ss,L,G) r j (j+i)∧offI ss.length j+i<LL.length:=fun j i hj hi=>by
   have:=lines_at (N,A,C,Q,R,S1,S2,S3) (c,ss,L,G) r hj hi;rw[hLL] at this;exact this.2
  have hF:bestF (N,A,C,Q,R,S1,S2,S3) (c,ss,L,G) r=if atN LL LL.length<0 then (noPlan,0,0,LL,4) else (planI (N,A,C,Q,R,S1,S2,S3) (c,ss,L,G) r (LL.getD (atN LL LL.length).toNat dPlace),(LL.getD (atN LL LL.length).toNat dPlace).1,(LL.getD (atN LL LL.length).toNat dPlace).2.1,LL,0):=by
   unfold bestF;rw[if_neg (Decidable.not_not.2 hE),hLL]
  simp only[↓hcsBst,entErr,entIst,entMk,entEnd,undef,hE,hl2,w1,go_sem];try simp only[hE,hl2,w1,td,reduceCtorEq]
  refine XW_for 1000 x50_0d [0,1,2,5] Nat (fun j=>[(32,.val Z1 (j:Int)),(14,.val Z1 (atN LL (offI ss.length j))),(13,.own 15)])
   (fun j=>[(15,.row 138 Z31 (LL.take (offI ss.length j))),(14,.box 65 [.val Z1 (B (offI ss.length j)).1,.val Z15 (B (offI ss.length j)).2.1,.val Z9 (B (offI ss.length j)).2.2.1,.val Z5 (B (offI ss.length j)).2.2.2])])
   (fun j=>j≤ss.length+1) (fun j=>ss.length+1-j) 0 ?_ ?_ ?_
  ·dsimp only[x50_0d];simp only[go_sem];refine ⟨⟨rfl,rfl⟩,rfl,?_⟩;rw[show offI ss.length 0=0 from rfl,hBB];exact ⟨rfl,rfl,rfl,rfl⟩
  ·exact Nat.zero_le _
  intro j hj;dsimp only[x50_0,x50_0d];by_cases hj':j<ss.length+1
  ·simp only[↓hcsBst,entErr,entIst,entMk,entEnd,undef,hj',go_sem];try simp only[hj',td,reduceCtorEq]
   refine XW_for 2000 x50_1d [0,1,2,5] Nat (fun i=>[(16,.val Z1 ((j+i:Nat):Int)),(14,.val Z1 (atN LL (offI ss.length j+i))),(13,.own 15)])
    (fun i=>[(15,.row 138 Z31 (LL.take (offI ss.length j+i))),(14,.box 65 [.val Z1 (B (offI ss.length j+i)).1,.val Z15 (B (offI ss.length j+i)).2.1,.val Z9 (B (offI ss.length j+i)).2.2.1,.val Z5 (B (offI ss.length j+i)).2.2.2])])
    (fun i=>i≤ss.length+1-j) (fun i=>ss.length+1-j-i) 0 ?_ ?_ ?_
   ·dsimp only[x50_1d];simp only[go_sem];try trivial
   ·exact Nat.zero_le _
   intro i hi;dsimp only[x50_1,x50_1d];by_cases hi':i<ss.length+1-j
   ·obtain ⟨hline,hkl⟩:=hat j i (by omega) hi';have hji:((j+i:Nat):Int)≤(ss.length:Int):=by omega
    have hji':j+i≤ss.length:=by omega
    have w2:IntKind.i64.wrap (((j+i:Nat):Int)+1)=((j+(i+1):Nat):Int):=(i64_in _ (by omega)).trans (by omega);have hsl:=stopsI_len ss r (j:Int) ((j+i:Nat):Int);have h24:(stopsI ss r (j:Int) ((j+i:Nat):Int)).length≤24:=by omega
    have hl3:ss.length≤1000:=by omega
    have hoj:=hoff j (by omega);have hkb:offI ss.length j+i≤500:=by omega
    have hrng:=atN_rng LL (offI ss.length j+i);have htl:(LL.take (offI ss.length j+i)).length=offI ss.length j+i:=by rw[List.length_take];omega
    have hts:LL.take (offI ss.length j+i)++[LL.getD (offI ss.length j+i) dPlace]=LL.take (offI ss.length j+(i+1)):=by
     rw[←Nat.add_assoc,List.take_succ_eq_append_getElem hkl,List.getD_eq_getElem?_getD,List.getElem?_eq_getElem hkl];rfl
    have hBs:=hBB (offI ss.length j+(i+1));have hAs:atN LL (offI ss.length j+(i+1))=if (LL.getD (offI ss.length j+i) dPlace).2.2.1=0∧(atN LL (offI ss.length j+i)<0∨(LL.getD (offI ss.length j+i) dPlace).2.2.2<(LL.getD (atN LL (offI ss.length j+i)).toNat dPlace).2.2.2) then ((offI ss.length j+i:Nat):Int) else atN LL (offI ss.length j+i):=rfl
    have hBk:=hBB (offI ss.length j+i);have htg:∀a:Nat,a<offI ss.length j+i→(LL.take (offI ss.length j+i)).getD a (0,0,0,0)=LL.getD a dPlace:=fun a ha=>by
     simp only[List.getD];rw[List.getElem?_take_of_lt ha]
    unfold bestN at hBs hBk;rw[hline] at hts hAs;have hpl:planI (N,A,C,Q,R,S1,S2,S3) (c,ss,L,G) r (lineI (N,A,C,Q,R,S1,S2,S3) (c,ss,L,G) r j (j+i))=(makeF (N,A,C,Q,R,S1,S2,S3) c (stopsI ss r (j:Int) ((j+i:Nat):Int))).1:=rfl;generalize offI ss.length j+i=k at*;by_cases hm:(makeF (N,A,C,Q,R,S1,S2,S3) c (stopsI ss r (j:Int) ((j+i:Nat):Int))).2=0
    ·have hq2:(makeF (N,A,C,Q,R,S1,S2,S3) c (stopsI ss r (j:Int) ((j+i:Nat):Int))).1.2.1=stopsI ss r (j:Int) ((j+i:Nat):Int):=(made_ok hm).2.2.2.1;have hlo:=(line_ok (w:=(N,A,C,Q,R,S1,S2,S3)) (p:=(c,ss,L,G)) (r:=r) (a:=j) (b:=j+i) hm).2.2;obtain ⟨⟨⟨q1,q2,q3,q4⟩,e⟩,hmk⟩:∃X:DPlan×Int,makeF (N,A,C,Q,R,S1,S2,S3) c (stopsI ss r (j:Int) ((j+i:Nat):Int))=X:=⟨_,rfl⟩;obtain ⟨t,htt⟩:∃t,(endP (N,A,C,Q,R,S1,S2,S3) (makeF (N,A,C,Q,R,S1,S2,S3) c (stopsI ss r (j:Int) ((j+i:Nat):Int))).1).1=t:=⟨_,rfl⟩;have hen:endP (N,A,C,Q,R,S1,S2,S3) (makeF (N,A,C,Q,R,S1,S2,S3) c (stopsI ss r (j:Int) ((j+i:Nat):Int))).1=(t,0):=Prod.ext htt (line_ok (w:=(N,A,C,Q,R,S1,S2,S3)) (p:=(c,ss,L,G)) (r:=r) (a:=j) (b:=j+i) hm).2.1;have hlo':lineI (N,A,C,Q,R,S1,S2,S3) (c,ss,L,G) r j (j+i)=((j:Int),((j+i:Nat):Int),0,t):=hlo.trans (by rw[←htt]);rw[hlo'] at hts hAs hline;rw[hmk] at hm hq2 hen hpl;rw[hlo'] at hpl;dsimp only at hm hq2 hpl hAs;subst hm;have hq24:q2.length≤24:=by rw[hq2];exact h24
     rcases Int.lt_or_le (atN LL k) 0 with hm0|hm0
     ·rw[if_pos ⟨rfl,.inl hm0⟩] at hAs;rw[hAs,if_neg (by omega),Int.toNat_natCast,hline,hpl] at hBs;simp only[↓hcsBst,entErr,entIst,entMk,entEnd,undef,hji,hji',w2,hmk,hen,h24,hl3,hq24,hm0,htl,go_sem];try simp only[hji,hji',w2,hmk,hen,h24,hl3,hq24,hm0,htl,td,reduceCtorEq]
      exact ⟨by omega,i+1,by omega,by omega,⟨rfl,hAs.symm⟩,hts,by rw[hBs],by rw[hBs],by rw[hBs],by rw[hBs]⟩
     ·obtain ⟨m,hmn⟩:∃m:Nat,atN LL k=m:=⟨(atN LL k).toNat,by omega⟩;have hm1:m<k:=by omega
      have hm2:¬(m:Int)<0:=by omega
      have hm3:(m:Int)<(k:Int):=by omega
      have hm4:(0:Int)≤(m:Int):=by omega
      rw[hmn] at hAs hBk;rw[if_neg hm2,Int.toNat_natCast] at hBk;have htm:=htg m hm1;rw[Int.toNat_natCast] at hAs;by_cases ht:t<(LL.getD m dPlace).2.2.2
      ·rw[if_pos ⟨rfl,.inr ht⟩] at hAs;rw[hAs,if_neg (by omega),Int.toNat_natCast,hline,hpl] at hBs;simp only[↓hcsBst,entErr,entIst,entMk,entEnd,undef,hji,hji',w2,hmk,hen,h24,hl3,hq24,hmn,hm1,hm2,hm3,hm4,htm,ht,htl,go_sem];try simp only[hji,hji',w2,hmk,hen,h24,hl3,hq24,hmn,hm1,hm2,hm3,hm4,htm,ht,htl,td,reduceCtorEq]
       exact ⟨by omega,i+1,by omega,by omega,⟨rfl,hAs.symm⟩,hts,by rw[hBs],by rw[hBs],by rw[hBs],by rw[hBs]⟩
      ·rw[if_neg (by rintro ⟨_,z|z⟩;exact hm2 z;exact ht z)] at hAs;rw[hAs,if_neg hm2,Int.toNat_natCast,←hBk] at hBs;simp only[↓hcsBst,entErr,entIst,entMk,entEnd,undef,hji,hji',w2,hmk,hen,h24,hl3,hq24,hmn,hm1,hm2,hm3,hm4,htm,ht,htl,go_sem];try simp only[hji,hji',w2,hmk,hen,h24,hl3,hq24,hmn,hm1,hm2,hm3,hm4,htm,ht,htl,td,reduceCtorEq]
       exact ⟨by omega,i+1,by omega,by omega,⟨rfl,hAs.symm⟩,hts,by rw[hBs],by rw[hBs],by rw[hBs],by rw[hBs]⟩
    ·have hln:=line_no (w:=(N,A,C,Q,R,S1,S2,S3)) (p:=(c,ss,L,G)) (r:=r) (a:=j) (b:=j+i) hm;obtain ⟨⟨⟨q1,q2,q3,q4⟩,e⟩,hmk⟩:∃X:DPlan×Int,makeF (N,A,C,Q,R,S1,S2,S3) c (stopsI ss r (j:Int) ((j+i:Nat):Int))=X:=⟨_,rfl⟩;have hln':lineI (N,A,C,Q,R,S1,S2,S3) (c,ss,L,G) r j (j+i)=((j:Int),((j+i:Nat):Int),e,0):=hln.trans (by rw[hmk]);rw[hln'] at hts hAs;rw[hmk] at hm;dsimp only at hm hAs;rw[if_neg (fun z=>hm z.1)] at hAs;rw[hAs,←hBk] at hBs;simp only[↓hcsBst,entErr,entIst,entMk,entEnd,undef,hji,hji',w2,hmk,h24,hl3,hm,htl,go_sem];try simp only[hji,hji',w2,hmk,h24,hl3,hm,htl,td,reduceCtorEq]
     exact ⟨by omega,i+1,by omega,by omega,⟨rfl,hAs.symm⟩,hts,by rw[hBs],by rw[hBs],by rw[hBs],by rw[hBs]⟩
   ·obtain rfl:i=ss.length+1-j:=by omega
    have hji:¬((j+(ss.length+1-j):Nat):Int)≤(ss.length:Int):=by omega
    have hji':¬j+(ss.length+1-j)≤ss.length:=by omega
    have w2:IntKind.i64.wrap ((j:Int)+1)=((j+1:Nat):Int):=i64_in _ (by omega);have hoe:offI ss.length j+(ss.length+1-j)=offI ss.length (j+1):=rfl;simp only[↓hcsBst,entErr,entIst,entMk,entEnd,undef,hji,hji',w2,hoe,go_sem];try simp only[hji,hji',w2,hoe,td,reduceCtorEq]
    exact ⟨j+1,by omega,by omega,⟨rfl,rfl⟩,rfl,rfl,rfl,rfl,rfl⟩
  ·obtain rfl:j=ss.length+1:=by omega
   simp only[↓hcsBst,entErr,entIst,entMk,entEnd,undef,hj',go_sem];try simp only[hj',td,reduceCtorEq]
   rw[←hlen,List.take_length,hF];have rng:=atN_rng LL LL.length;have hBl:=hBB LL.length;unfold bestN at hBl;refine ⟨fun h=>by rw[if_pos h];rfl,fun h=>?_⟩;rw[if_neg (by omega)] at hBl⊢;refine ⟨⟨⟨h,by omega⟩,by omega,⟨h,by omega⟩,by omega⟩,?_⟩;rw[hBl]
 ·have hB:bestF (N,A,C,Q,R,S1,S2,S3) (c,ss,L,G) r=(noPlan,0,0,[],errI (N,A,C,Q,R,S1,S2,S3) (c,ss,L,G) r):=by unfold bestF;rw[if_pos hE]
  simp only[↓hcsBst,entErr,entIst,entMk,entEnd,undef,hE,hB,noPlan,hl2,go_sem];try simp only[hE,hB,noPlan,hl2,td,reduceCtorEq]
end T
end Go.Proofs.YtpocfbfmjippnaaGreat
end
