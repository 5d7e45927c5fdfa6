/- Parts of the proof, merged (by a program): definitions and lemmas for the law; no condition. -/
import Derived.Test.YtjlofnjlhgbmoaaGreatY11
set_option linter.unusedVariables false
set_option linter.unusedSimpArgs false
open Nat renaming reduceAdd → YA, reduceSub → YS, reduceMul → YM, reduceLT → YL, reduceLeDiff → YE, reduceEqDiff → YD, reduceBEq → YB, reduceBNe → YN
open List renaming reduceReplicate → YR
namespace Go.Proofs.YtjlofnjlhgbmoaaGreat
section
open Go.RowKit Go.IntWalk
namespace T
def entBsR:Ent:=⟨13,.cons (.st (.cons (.int .i64) (.cons (.sl (.st (.cons (.int .i64) (.cons (.int .i64) (.cons (.sl (.int .i64)) (.sl (.int .i64))))))) (.cons (.sl (.st (.cons (.int .i64) (.cons (.int .i64) (.cons (.int .i64) (.cons (.int .i64) (.cons (.int .i64) (.cons (.int .i64) (.cons (.int .i64) (.cons (.int .i64) (.int .i64))))))))))) (.cons (.sl (.st (.cons (.int .i64) (.cons (.int .i64) (.cons (.int .i64) (.cons (.int .i64) (.cons (.int .i64) (.cons (.int .i64) (.cons (.int .i64) (.cons (.int .i64) (.cons (.int .i64) (.int .i64)))))))))))) (.cons (.sl (.st (.cons (.int .i64) (.cons (.int .i64) .bool)))) (.st (.cons (.int .i64) (.cons (.int .i64) (.int .i64)))))))))) (.cons (.st (.cons (.int .i64) (.cons (.sl (.st (.cons (.int .i64) .bool))) (.cons (.sl (.st (.cons (.int .i64) (.int .i64)))) (.sl (.int .i64)))))) (.cons (.int .i64) .nil)),.cons (.st (.cons (.int .i64) (.cons (.sl (.st (.cons (.int .i64) .bool))) (.cons (.sl (.st (.cons (.int .i64) (.int .i64)))) (.sl (.int .i64)))))) (.cons (.int .i64) (.cons (.int .i64) (.cons (.sl (.st (.cons (.int .i64) (.cons (.int .i64) (.cons (.int .i64) (.int .i64)))))) (.cons (.int .i64) .nil)))),true,none,fun x=>List.length (α:=DStop) (x.2.1:DPlan).2.1≤20,fun x=>((bestF x.1 x.2.1 x.2.2.1).1,(bestF x.1 x.2.1 x.2.2.1).2.1,(bestF x.1 x.2.1 x.2.2.1).2.2.1,(bestF x.1 x.2.1 x.2.2.1).2.2.2.1,(bestF x.1 x.2.1 x.2.2.1).2.2.2.2,())⟩
def csBsR:List Ent:=[entRR20,entNmd,entCkR,entRst21,entMkR,entEnR] theorem hcsBsR (f:FuncId):findEnt csBsR f=findEnt [entRR20,entNmd,entCkR,entRst21,entMkR,entEnR] f:=rfl
set_option maxHeartbeats 4000000 in
theorem conBsR:Con Tryz.prog entBsR:=by
 refine con_is (C:=csBsR) x13 (by kernel_rfl) (by simp [csBsR,conRR20,conNmd,conCkR,conRst21,conMkR,conEnR]) fun x hx hf=>?_
 obtain ⟨⟨(N:Int),(A:List DArc),(C:List DCar),(Q:List DReq),(R:List DPair),(S1:Int),(S2:Int),(S3:Int)⟩,⟨(c:Int),(ss:List DStop),(L:List DLeg),(G:List Int)⟩,(r:Int),_⟩:=x
 have hl:ss.length≤20:=hx
 dsimp only [entBsR,x13,Z1,Z19,Z20,Z23,Z7,Z9,Za,Zb,Zc,Zd,Ze,Zf,Zg,Zi]
 have hEd:errI (N,A,C,Q,R,S1,S2,S3) (c,ss,L,G) r=if rightP (N,A,C,Q,R,S1,S2,S3)=false∨checkP (N,A,C,Q,R,S1,S2,S3) (c,ss,L,G)≠0∨r < 0∨(Q.length:Int)≤r∨namedI ss r=true then 1 else 0:=rfl
 have h78:¬ (ss.length:Int) > 78:=by omega
 by_cases hE:rightP (N,A,C,Q,R,S1,S2,S3)=false∨checkP (N,A,C,Q,R,S1,S2,S3) (c,ss,L,G)≠0∨r < 0∨(Q.length:Int)≤r∨namedI ss r=true
 ·rw [if_pos hE] at hEd
  have hB:bestF (N,A,C,Q,R,S1,S2,S3) (c,ss,L,G) r=(noPlan,0,0,[],1):=by unfold bestF;rw [hEd,if_pos (by decide)]
  cases h1:rightP (N,A,C,Q,R,S1,S2,S3)
  ·simp only [↓hcsBsR,entRR20,entNmd,entCkR,entRst21,entMkR,entEnR,undef,hB,noPlan,h1,go_sem,YA,YS,YM,YL,YE,YD,YB,YN,YR,reduceIte,reduceCtorEq,↓reduceIte]
   try simp only [hB,noPlan,h1,td,reduceCtorEq]
  by_cases h3:r < 0
  ·simp only [↓hcsBsR,entRR20,entNmd,entCkR,entRst21,entMkR,entEnR,undef,hB,noPlan,h1,h3,go_sem,YA,YS,YM,YL,YE,YD,YB,YN,YR,reduceIte,reduceCtorEq,↓reduceIte]
   try simp only [hB,noPlan,h1,h3,td,reduceCtorEq]
  by_cases h4:(Q.length:Int)≤r
  ·have h4':r ≥ (Q.length:Int):=h4
   simp only [↓hcsBsR,entRR20,entNmd,entCkR,entRst21,entMkR,entEnR,undef,hB,noPlan,h1,h3,h4,h4',go_sem,YA,YS,YM,YL,YE,YD,YB,YN,YR,reduceIte,reduceCtorEq,↓reduceIte]
   try simp only [hB,noPlan,h1,h3,h4,h4',td,reduceCtorEq]
  have h4':¬ r ≥ (Q.length:Int):=h4
  cases h5:namedI ss r
  ·have h2:¬ checkP (N,A,C,Q,R,S1,S2,S3) (c,ss,L,G)=0:=by
    rcases hE with q | q | q | q | q
    ·rw [h1] at q;cases q
    ·exact q
    ·exact absurd q h3
    ·exact absurd q h4
    ·rw [h5] at q;cases q
   simp only [↓hcsBsR,entRR20,entNmd,entCkR,entRst21,entMkR,entEnR,undef,hB,noPlan,h1,h2,h3,h4,h4',h5,go_sem,YA,YS,YM,YL,YE,YD,YB,YN,YR,reduceIte,reduceCtorEq,↓reduceIte]
   try simp only [hB,noPlan,h1,h2,h3,h4,h4',h5,td,reduceCtorEq]
  ·simp only [↓hcsBsR,entRR20,entNmd,entCkR,entRst21,entMkR,entEnR,undef,hB,noPlan,h1,h3,h4,h4',h5,go_sem,YA,YS,YM,YL,YE,YD,YB,YN,YR,reduceIte,reduceCtorEq,↓reduceIte]
   try simp only [hB,noPlan,h1,h3,h4,h4',h5,td,reduceCtorEq]
 rw [if_neg hE] at hEd
 have h1:rightP (N,A,C,Q,R,S1,S2,S3)=true:=by
  rw [← Bool.not_eq_false];exact fun z=>hE (.inl z)
 have h2:checkP (N,A,C,Q,R,S1,S2,S3) (c,ss,L,G)=0:=Decidable.not_not.1 fun z=>hE (.inr (.inl z))
 have h3:¬ r < 0:=fun z=>hE (.inr (.inr (.inl z)))
 have h4:¬ (Q.length:Int)≤r:=fun z=>hE (.inr (.inr (.inr (.inl z))))
 have h4':¬ r ≥ (Q.length:Int):=h4
 have h5:namedI ss r=false:=by
  rw [← Bool.not_eq_true];exact fun z=>hE (.inr (.inr (.inr (.inr z))))
 have hE:errI (N,A,C,Q,R,S1,S2,S3) (c,ss,L,G) r=0:=hEd
 obtain ⟨LL,hLL⟩:∃ LL,linesI (N,A,C,Q,R,S1,S2,S3) (c,ss,L,G) r=LL:=⟨_,rfl⟩
 have hlen:=lines_len (N,A,C,Q,R,S1,S2,S3) (c,ss,L,G) r
 rw [hLL] at hlen
 dsimp only at hlen
 have hoff:∀ j,j≤21→offI ss.length j≤441:=fun j hj=>Nat.le_trans (offI_le _ _) (Nat.le_trans (Nat.mul_le_mul (show ss.length+1≤21 by omega) hj) (by decide))
 have hat:∀ j i,j≤ss.length→i < ss.length+1 - j→LL.getD (offI ss.length j+i) dPlace=lineI (N,A,C,Q,R,S1,S2,S3) (c,ss,L,G) r j (j+i)∧offI ss.length j+i < LL.length:=fun j i hj hi=>by
  have:=lines_at (N,A,C,Q,R,S1,S2,S3) (c,ss,L,G) r hj hi
  rw [hLL] at this
  exact this.2
 have hF:bestF (N,A,C,Q,R,S1,S2,S3) (c,ss,L,G) r=if atN LL LL.length < 0 then (noPlan,0,0,LL,4) else (planI (N,A,C,Q,R,S1,S2,S3) (c,ss,L,G) r (LL.getD (atN LL LL.length).toNat dPlace),(LL.getD (atN LL LL.length).toNat dPlace).1,(LL.getD (atN LL LL.length).toNat dPlace).2.1,LL,0):=by
  unfold bestF;rw [if_neg (Decidable.not_not.2 hE),hLL]
 simp only [↓hcsBsR,entRR20,entNmd,entCkR,entRst21,entMkR,entEnR,undef,h1,h2,h3,h4,h4',h5,h78,go_sem,YA,YS,YM,YL,YE,YD,YB,YN,YR,reduceIte,reduceCtorEq,↓reduceIte]
 try simp only [h1,h2,h3,h4,h4',h5,h78,td,reduceCtorEq]
 refine XW_for 1000 x13_0d [0,1,2,5] Nat (fun j=>[(12,.val (.int .i64) (j:Int)),(11,.own 35)]) (fun j=>[(35,.row 87 (.st (.cons (.int .i64) (.cons (.int .i64) (.cons (.int .i64) (.int .i64))))) (LL.take (offI ss.length j)))])
  (fun j=>j≤ss.length+1) (fun j=>ss.length+1 - j) 0 ?_ ?_ ?_
 ·dsimp only [x13_0d]
  simp only [go_sem,YA,YS,YM,YL,YE,YD,YB,YN,YR,reduceIte,reduceCtorEq,↓reduceIte]
  exact ⟨rfl,rfl⟩
 ·exact Nat.zero_le _
 intro j hj
 dsimp only [x13_0,x13_0d,Z19,Za,Zb]
 by_cases hj':j < ss.length+1
 ·have hjle:(j:Int)≤(ss.length:Int):=by omega
  have hjle':j≤ss.length:=by omega
  simp only [↓hcsBsR,entRR20,entNmd,entCkR,entRst21,entMkR,entEnR,undef,hjle,hjle',go_sem,YA,YS,YM,YL,YE,YD,YB,YN,YR,reduceIte,reduceCtorEq,↓reduceIte]
  try simp only [hjle,hjle',td,reduceCtorEq]
  refine XW_for 2000 x13_1d [0,1,2,5] Nat (fun i=>[(13,.val (.int .i64) ((j+i:Nat):Int)),(11,.own 35)])
   (fun i=>[(35,.row 87 (.st (.cons (.int .i64) (.cons (.int .i64) (.cons (.int .i64) (.int .i64))))) (LL.take (offI ss.length j+i)))]) (fun i=>i≤ss.length+1 - j) (fun i=>ss.length+1 - j - i) 0 ?_ ?_ ?_
  ·dsimp only [x13_1d]
   simp only [go_sem,YA,YS,YM,YL,YE,YD,YB,YN,YR,reduceIte,reduceCtorEq,↓reduceIte]
   try trivial
  ·exact Nat.zero_le _
  intro i hi
  dsimp only [x13_1,x13_1d,Z1,Z19,Z20,Z23,Z9,Za,Zb,Zc,Zd,Zf,Zg]
  by_cases hi':i < ss.length+1 - j
  ·obtain ⟨hline,hkl⟩:=hat j i (by omega) hi'
   have hji:((j+i:Nat):Int)≤(ss.length:Int):=by omega
   have hji':j+i≤ss.length:=by omega
   have w2:IntKind.i64.wrap (((j+i:Nat):Int)+1)=((j+(i+1):Nat):Int):=(i64_in _ (by omega)).trans (by omega)
   have hl3:ss.length≤1000:=by omega
   have hoj:=hoff j (by omega)
   have hkb:offI ss.length j+i≤500:=by omega
   have htl:(LL.take (offI ss.length j+i)).length=offI ss.length j+i:=by rw [List.length_take];omega
   have hts:LL.take (offI ss.length j+i) ++ [LL.getD (offI ss.length j+i) dPlace]=LL.take (offI ss.length j+(i+1)):=by
    rw [← Nat.add_assoc,List.take_succ_eq_append_getElem hkl,List.getD_eq_getElem?_getD,List.getElem?_eq_getElem hkl];rfl
   rw [hline] at hts
   generalize offI ss.length j+i=k at *
   by_cases hm:(makeF (N,A,C,Q,R,S1,S2,S3) c (stopsI ss r (j:Int) ((j+i:Nat):Int))).2=0
   ·have hlo:=(line_ok (w:=(N,A,C,Q,R,S1,S2,S3)) (p:=(c,ss,L,G)) (r:=r) (a:=j) (b:=j+i) hm).2.2
    obtain ⟨⟨⟨q1,q2,q3,q4⟩,e⟩,hmk⟩:∃ X:DPlan × Int,makeF (N,A,C,Q,R,S1,S2,S3) c (stopsI ss r (j:Int) ((j+i:Nat):Int))=X:=⟨_,rfl⟩
    obtain ⟨t,htt⟩:∃ t,(endP (N,A,C,Q,R,S1,S2,S3) (makeF (N,A,C,Q,R,S1,S2,S3) c (stopsI ss r (j:Int) ((j+i:Nat):Int))).1).1=t:=⟨_,rfl⟩
    have hen:endP (N,A,C,Q,R,S1,S2,S3) (makeF (N,A,C,Q,R,S1,S2,S3) c (stopsI ss r (j:Int) ((j+i:Nat):Int))).1=(t,0):=Prod.ext htt (line_ok (w:=(N,A,C,Q,R,S1,S2,S3)) (p:=(c,ss,L,G)) (r:=r) (a:=j) (b:=j+i) hm).2.1
    have hlo':lineI (N,A,C,Q,R,S1,S2,S3) (c,ss,L,G) r j (j+i)=((j:Int),((j+i:Nat):Int),0,t):=hlo.trans (by rw [← htt])
    rw [hlo'] at hts
    rw [hmk] at hm hen
    dsimp only at hm
    subst hm
    simp only [↓hcsBsR,entRR20,entNmd,entCkR,entRst21,entMkR,entEnR,undef,hji,hji',w2,hmk,hen,hl3,htl,Int.toNat_natCast,go_sem,YA,YS,YM,YL,YE,YD,YB,YN,YR,reduceIte,reduceCtorEq,↓reduceIte]
    try simp only [hji,hji',w2,hmk,hen,hl3,htl,Int.toNat_natCast,td,reduceCtorEq]
    exact ⟨by omega,i+1,by omega,by omega,rfl,hts⟩
   ·have hln:=line_no (w:=(N,A,C,Q,R,S1,S2,S3)) (p:=(c,ss,L,G)) (r:=r) (a:=j) (b:=j+i) hm
    obtain ⟨⟨⟨q1,q2,q3,q4⟩,e⟩,hmk⟩:∃ X:DPlan × Int,makeF (N,A,C,Q,R,S1,S2,S3) c (stopsI ss r (j:Int) ((j+i:Nat):Int))=X:=⟨_,rfl⟩
    have hln':lineI (N,A,C,Q,R,S1,S2,S3) (c,ss,L,G) r j (j+i)=((j:Int),((j+i:Nat):Int),e,0):=hln.trans (by rw [hmk])
    rw [hln'] at hts
    rw [hmk] at hm
    dsimp only at hm
    simp only [↓hcsBsR,entRR20,entNmd,entCkR,entRst21,entMkR,entEnR,undef,hji,hji',w2,hmk,hl3,hm,htl,Int.toNat_natCast,go_sem,YA,YS,YM,YL,YE,YD,YB,YN,YR,reduceIte,reduceCtorEq,↓reduceIte]
    try simp only [hji,hji',w2,hmk,hl3,hm,htl,Int.toNat_natCast,td,reduceCtorEq]
    exact ⟨by omega,i+1,by omega,by omega,rfl,hts⟩
  ·obtain rfl:i=ss.length+1 - j:=by omega
   have hji:¬ ((j+(ss.length+1 - j):Nat):Int)≤(ss.length:Int):=by omega
   have hji':¬ j+(ss.length+1 - j)≤ss.length:=by omega
   have w2:IntKind.i64.wrap ((j:Int)+1)=((j+1:Nat):Int):=i64_in _ (by omega)
   have hoe:offI ss.length j+(ss.length+1 - j)=offI ss.length (j+1):=rfl
   simp only [↓hcsBsR,entRR20,entNmd,entCkR,entRst21,entMkR,entEnR,undef,hji,hji',w2,hoe,go_sem,YA,YS,YM,YL,YE,YD,YB,YN,YR,reduceIte,reduceCtorEq,↓reduceIte]
   try simp only [hji,hji',w2,hoe,td,reduceCtorEq]
   exact ⟨j+1,by omega,by omega,rfl,rfl⟩
 obtain rfl:j=ss.length+1:=by omega
 have hjle:¬ ((ss.length+1:Nat):Int)≤(ss.length:Int):=by omega
 have hjle':¬ ss.length+1≤ss.length:=by omega
 rw [← hlen,List.take_length]
 have hLn:LL.length≤441:=by rw [hlen];exact hoff _ (by omega)
 have w0:IntKind.i64.wrap ((LL.length:Int) - 1)=(LL.length:Int) - 1:=i64_in _ (by omega)
 simp only [↓hcsBsR,entRR20,entNmd,entCkR,entRst21,entMkR,entEnR,undef,hjle,hjle',w0,go_sem,YA,YS,YM,YL,YE,YD,YB,YN,YR,reduceIte,reduceCtorEq,↓reduceIte]
 try simp only [hjle,hjle',w0,td,reduceCtorEq]
 refine XW_for 3000 x13_2d [0,1,2,5,35] Nat (fun k=>[(20,.val (.int .i64) ((LL.length:Int) - 1 - k)),(19,.val (.int .i64) (btN LL k))]) (fun _=>[]) (fun k=>k≤LL.length) (fun k=>LL.length - k) 0 ?_ ?_ ?_
 ·dsimp only [x13_2d]
  simp only [go_sem,YA,YS,YM,YL,YE,YD,YB,YN,YR,reduceIte,reduceCtorEq,↓reduceIte]
  exact ⟨(Int.sub_zero _).symm,rfl⟩
 ·exact Nat.zero_le _
 intro k hk
 dsimp only [x13_2,x13_2d,Z1,Z9,Za,Zc,Zf,Zh]
 by_cases hk':k < LL.length
 ·obtain ⟨i,hi⟩:∃ i:Nat,LL.length - 1 - k=i:=⟨_,rfl⟩
  have hii:(LL.length:Int) - 1 - k=(i:Int):=by omega
  have hin:i < LL.length:=by omega
  have w2:IntKind.i64.wrap ((i:Int) - 1)=(LL.length:Int) - 1 - ((k+1:Nat):Int):=(i64_in _ (by omega)).trans (by omega)
  have hi0:(i:Int) ≥ 0:=by omega
  have hi0':(0:Int)≤(i:Int):=by omega
  have hrng:=btN_rng LL hk
  have hBs:btN LL (k+1)=if (LL.getD (LL.length - 1 - k) dPlace).2.2.1=0∧(btN LL k < 0∨(LL.getD (LL.length - 1 - k) dPlace).2.2.2≤(LL.getD (btN LL k).toNat dPlace).2.2.2) then ((LL.length - 1 - k:Nat):Int) else btN LL k:=rfl
  rw [hi] at hBs
  rw [hii]
  by_cases c1:(LL.getD i dPlace).2.2.1=0
  ·rcases Int.lt_or_le (btN LL k) 0 with c2 | c2
   ·rw [if_pos ⟨c1,.inl c2⟩] at hBs
    simp only [↓hcsBsR,entRR20,entNmd,entCkR,entRst21,entMkR,entEnR,undef,hin,w2,hi0,hi0',c1,c2,Int.toNat_natCast,go_sem,YA,YS,YM,YL,YE,YD,YB,YN,YR,reduceIte,reduceCtorEq,↓reduceIte]
    try simp only [hin,w2,hi0,hi0',c1,c2,Int.toNat_natCast,td,reduceCtorEq]
    exact ⟨k+1,by omega,by omega,rfl,hBs.symm⟩
   ·obtain ⟨m,hmn⟩:∃ m:Nat,btN LL k=m:=⟨(btN LL k).toNat,by omega⟩
    have hm1:m < LL.length:=by omega
    have hm2:¬ (m:Int) < 0:=by omega
    have hm4:(0:Int)≤(m:Int):=by omega
    rw [hmn,Int.toNat_natCast] at hBs
    by_cases ht:(LL.getD i dPlace).2.2.2≤(LL.getD m dPlace).2.2.2
    ·rw [if_pos ⟨c1,.inr ht⟩] at hBs
     simp only [↓hcsBsR,entRR20,entNmd,entCkR,entRst21,entMkR,entEnR,undef,hin,w2,hi0,hi0',c1,hmn,hm1,hm2,hm4,ht,Int.toNat_natCast,go_sem,YA,YS,YM,YL,YE,YD,YB,YN,YR,reduceIte,reduceCtorEq,↓reduceIte]
     try simp only [hin,w2,hi0,hi0',c1,hmn,hm1,hm2,hm4,ht,Int.toNat_natCast,td,reduceCtorEq]
     exact ⟨k+1,by omega,by omega,rfl,hBs.symm⟩
    ·rw [if_neg (by rintro ⟨_,z | z⟩;exact hm2 z;exact ht z)] at hBs
     simp only [↓hcsBsR,entRR20,entNmd,entCkR,entRst21,entMkR,entEnR,undef,hin,w2,hi0,hi0',c1,hmn,hm1,hm2,hm4,ht,Int.toNat_natCast,go_sem,YA,YS,YM,YL,YE,YD,YB,YN,YR,reduceIte,reduceCtorEq,↓reduceIte]
     try simp only [hin,w2,hi0,hi0',c1,hmn,hm1,hm2,hm4,ht,Int.toNat_natCast,td,reduceCtorEq]
     exact ⟨k+1,by omega,by omega,rfl,hBs.symm⟩
  ·rw [if_neg (fun z=>c1 z.1)] at hBs
   simp only [↓hcsBsR,entRR20,entNmd,entCkR,entRst21,entMkR,entEnR,undef,hin,w2,hi0,hi0',c1,Int.toNat_natCast,go_sem,YA,YS,YM,YL,YE,YD,YB,YN,YR,reduceIte,reduceCtorEq,↓reduceIte]
   try simp only [hin,w2,hi0,hi0',c1,Int.toNat_natCast,td,reduceCtorEq]
   exact ⟨k+1,by omega,by omega,rfl,hBs.symm⟩
 ·obtain rfl:k=LL.length:=by omega
  have hkz:(LL.length:Int) - 1 - LL.length = -1:=by omega
  have hb:=bt_at LL
  have hrng:=atN_rng LL LL.length
  rw [hkz,hb]
  have hz1:¬ (0:Int) ≤ -1:=by decide
  have hz2:¬ (-1:Int) ≥ 0:=by decide
  have hz3:(-1:Int) < 0:=by decide
  rcases Int.lt_or_le (atN LL LL.length) 0 with c2 | c2
  ·rw [if_pos c2] at hF
   simp only [↓hcsBsR,entRR20,entNmd,entCkR,entRst21,entMkR,entEnR,undef,hF,noPlan,c2,hz1,hz2,hz3,go_sem,YA,YS,YM,YL,YE,YD,YB,YN,YR,reduceIte,reduceCtorEq,↓reduceIte]
   try simp only [hF,noPlan,c2,hz1,hz2,hz3,td,reduceCtorEq]
  ·obtain ⟨m,hmn⟩:∃ m:Nat,atN LL LL.length=m:=⟨(atN LL LL.length).toNat,by omega⟩
   have hm1:m < LL.length:=by omega
   have hm2:¬ (m:Int) < 0:=by omega
   have hm4:(0:Int)≤(m:Int):=by omega
   rw [hmn,if_neg hm2,Int.toNat_natCast] at hF
   rw [hmn]
   have hl3:ss.length≤1000:=by omega
   simp only [↓hcsBsR,entRR20,entNmd,entCkR,entRst21,entMkR,entEnR,undef,hF,hm1,hm2,hm4,hl3,hz1,hz2,hz3,Int.toNat_natCast,go_sem,YA,YS,YM,YL,YE,YD,YB,YN,YR,reduceIte,reduceCtorEq,↓reduceIte]
   try simp only [hF,hm1,hm2,hm4,hl3,hz1,hz2,hz3,Int.toNat_natCast,td,reduceCtorEq]
   rfl
end T
end
section
open Go.RowKit Go.IntWalk
namespace T
def entSmPl:Ent:=⟨41,.cons (.sl (.st (.cons (.int .i64) (.cons (.int .i64) (.cons (.int .i64) (.int .i64)))))) (.cons (.sl (.st (.cons (.int .i64) (.cons (.int .i64) (.cons (.int .i64) (.int .i64)))))) .nil),.bool,false,none,fun _=>True,fun x=>decide ((x.1:List DPlace)=x.2.1)⟩
def csSmPl:List Ent:=[] theorem hcsSmPl (f:FuncId):findEnt csSmPl f=findEnt [] f:=rfl
theorem conSmPl:Con Tryz.prog entSmPl:=by
 refine con_is (C:=csSmPl) x41 (by kernel_rfl) (by simp [csSmPl]) fun x hx hf=>?_
 obtain ⟨(a:List DPlace),(b:List DPlace),_⟩:=x
 have hl:a.length≤9223372036854775807:=hf.1.1
 by_cases hab:a.length=b.length
 ·have habi:(a.length:Int)=(b.length:Int):=by omega
  dsimp only [entSmPl,x41,Zb,Zg];simp only [↓hcsSmPl,habi,go_sem,YA,YS,YM,YL,YE,YD,YB,YN,YR,reduceIte,reduceCtorEq,↓reduceIte]
  try simp only [habi,td,reduceCtorEq]
  refine XW_for 1000 x41_0d [] Nat (fun j=>[(5,.val (.int .i64) (j:Int))]) (fun _=>[]) (fun j=>j≤a.length∧∀ i,i < j→a.getD i dPlace=b.getD i dPlace) (fun j=>a.length - j) 0 ?_ ?_ ?_
  ·dsimp only [x41_0d];simp only [go_sem,YA,YS,YM,YL,YE,YD,YB,YN,YR,reduceIte,reduceCtorEq,↓reduceIte];try trivial
  ·exact ⟨Nat.zero_le _,fun i hi=>by omega⟩
  rintro j ⟨hj,hn⟩
  by_cases hja:j < a.length
  ·have hjb:j < b.length:=by omega
   have w2:IntKind.i64.wrap ((j:Int)+1)=((j+1:Nat):Int):=i64_in _ (by omega)
   have hne:a.getD j dPlace≠b.getD j dPlace→decide (a=b)=false:=fun h=>decide_eq_false fun z=>h (by rw [z])
   have hnx:a.getD j dPlace=b.getD j dPlace→∀ i,i < j+1→a.getD i dPlace=b.getD i dPlace:=fun h i hi=>by
    rcases Nat.lt_or_ge i j with q | q
    ·exact hn i q
    ·rw [show i=j by omega];exact h
   generalize hA:a.getD j dPlace=u at hne hnx
   generalize hB:b.getD j dPlace=v at hne hnx
   obtain ⟨u1,u2,u3,u4⟩:=u
   obtain ⟨v1,v2,v3,v4⟩:=v
   have huv:((u1,u2,u3,u4)=(v1,v2,v3,v4)) ↔ u1=v1∧u2=v2∧u3=v3∧u4=v4:=by simp
   dsimp only [x41_0,x41_0d,Z9,Za,Zf];simp only [↓hcsSmPl,hja,hjb,w2,hA,hB,habi,go_sem,YA,YS,YM,YL,YE,YD,YB,YN,YR,reduceIte,reduceCtorEq,↓reduceIte]
   try simp only [hja,hjb,w2,hA,hB,habi,td,reduceCtorEq]
   exact ⟨fun h=>(hne (fun q=>h (huv.1 q).1 (huv.1 q).2.1 (huv.1 q).2.2.1 (huv.1 q).2.2.2)).symm,fun h=>⟨j+1,by omega,⟨by omega,hnx (huv.2 h)⟩,rfl⟩⟩
  ·have hjb:¬ j < b.length:=by omega
   have heq:decide (a=b)=true:=decide_eq_true (ext_getD dPlace hab fun i hi=>hn i (by omega))
   dsimp only [x41_0,x41_0d,Z9,Za,Zf];simp only [↓hcsSmPl,hja,hjb,habi,heq,go_sem,YA,YS,YM,YL,YE,YD,YB,YN,YR,reduceIte,reduceCtorEq,↓reduceIte]
   try simp only [hja,hjb,habi,heq,td,reduceCtorEq]
 ·have habi:¬ (a.length:Int)=(b.length:Int):=by omega
  have hne:decide (a=b)=false:=decide_eq_false fun z=>hab (by rw [z])
  dsimp only [entSmPl,x41,Zb,Zg];simp only [↓hcsSmPl,hab,habi,hne,go_sem,YA,YS,YM,YL,YE,YD,YB,YN,YR,reduceIte,reduceCtorEq,↓reduceIte]
  try simp only [hab,habi,hne,td,reduceCtorEq]
def entRCk:Ent:=⟨21,.cons (.st (.cons (.int .i64) (.cons (.sl (.st (.cons (.int .i64) (.cons (.int .i64) (.cons (.sl (.int .i64)) (.sl (.int .i64))))))) (.cons (.sl (.st (.cons (.int .i64) (.cons (.int .i64) (.cons (.int .i64) (.cons (.int .i64) (.cons (.int .i64) (.cons (.int .i64) (.cons (.int .i64) (.cons (.int .i64) (.int .i64))))))))))) (.cons (.sl (.st (.cons (.int .i64) (.cons (.int .i64) (.cons (.int .i64) (.cons (.int .i64) (.cons (.int .i64) (.cons (.int .i64) (.cons (.int .i64) (.cons (.int .i64) (.cons (.int .i64) (.int .i64)))))))))))) (.cons (.sl (.st (.cons (.int .i64) (.cons (.int .i64) .bool)))) (.st (.cons (.int .i64) (.cons (.int .i64) (.int .i64)))))))))) (.cons (.st (.cons (.int .i64) (.cons (.sl (.st (.cons (.int .i64) .bool))) (.cons (.sl (.st (.cons (.int .i64) (.int .i64)))) (.sl (.int .i64)))))) (.cons (.int .i64) (.cons (.st (.cons (.int .i64) (.cons (.sl (.st (.cons (.int .i64) .bool))) (.cons (.sl (.st (.cons (.int .i64) (.int .i64)))) (.sl (.int .i64)))))) (.cons (.sl (.st (.cons (.int .i64) (.cons (.int .i64) (.cons (.int .i64) (.int .i64)))))) .nil)))),(.int .i64),false,none,fun x=>List.length (α:=DStop) (x.2.1:DPlan).2.1≤20,fun x=>checkI x.1 x.2.1 x.2.2.1 x.2.2.2.1 x.2.2.2.2.1⟩
def csRCk:List Ent:=[entBsR,entSmP,entSmPl] theorem hcsRCk (f:FuncId):findEnt csRCk f=findEnt [entBsR,entSmP,entSmPl] f:=rfl
theorem conRCk:Con Tryz.prog entRCk:=by
 refine con_is (C:=csRCk) x21 (by kernel_rfl) (by simp [csRCk,conBsR,conSmP,conSmPl]) fun x hx hf=>?_
 obtain ⟨⟨(N:Int),(A:List DArc),(C:List DCar),(Q:List DReq),(R:List DPair),(S1:Int),(S2:Int),(S3:Int)⟩,⟨(c:Int),(ss:List DStop),(L:List DLeg),(G:List Int)⟩,(r:Int),⟨(g1:Int),(g2:List DStop),(g3:List DLeg),(g4:List Int)⟩,(l:List DPlace),_⟩:=x
 have hl:ss.length≤20:=hx
 have hF:checkI (N,A,C,Q,R,S1,S2,S3) (c,ss,L,G) r (g1,g2,g3,g4) l=if (bestF (N,A,C,Q,R,S1,S2,S3) (c,ss,L,G) r).2.2.2.2≠0∧(bestF (N,A,C,Q,R,S1,S2,S3) (c,ss,L,G) r).2.2.2.2≠4 then (bestF (N,A,C,Q,R,S1,S2,S3) (c,ss,L,G) r).2.2.2.2 else if (bestF (N,A,C,Q,R,S1,S2,S3) (c,ss,L,G) r).1=(g1,g2,g3,g4)∧(bestF (N,A,C,Q,R,S1,S2,S3) (c,ss,L,G) r).2.2.2.1=l then 0 else 23:=rfl
 obtain ⟨⟨⟨b1,b2,b3,b4⟩,bp,bd,bl,e⟩,hB⟩:∃ X:DPlan × Int × Int × List DPlace × Int,bestF (N,A,C,Q,R,S1,S2,S3) (c,ss,L,G) r=X:=⟨_,rfl⟩
 rw [hB] at hF
 dsimp only at hF
 dsimp only [entRCk,x21,Z20,Z23,Za,Zb,Zc,Zd,Ze,Zg]
 by_cases h0:e=0∨e=4
 ·rw [if_neg (by omega)] at hF
  by_cases h1:((b1,b2,b3,b4):DPlan)=(g1,g2,g3,g4)
  ·by_cases h2:bl=l
   ·rw [if_pos ⟨h1,h2⟩] at hF
    rcases h0 with h0 | h0 <;>
    ·subst h0
     simp only [↓hcsRCk,entBsR,entSmP,entSmPl,undef,hB,hF,hl,h1,h2,go_sem,YA,YS,YM,YL,YE,YD,YB,YN,YR,reduceIte,reduceCtorEq,↓reduceIte]
     try simp only [hB,hF,hl,h1,h2,td,reduceCtorEq]
   ·rw [if_neg (fun z=>h2 z.2)] at hF
    rcases h0 with h0 | h0 <;>
    ·subst h0
     simp only [↓hcsRCk,entBsR,entSmP,entSmPl,undef,hB,hF,hl,h1,h2,go_sem,YA,YS,YM,YL,YE,YD,YB,YN,YR,reduceIte,reduceCtorEq,↓reduceIte]
     try simp only [hB,hF,hl,h1,h2,td,reduceCtorEq]
  ·rw [if_neg (fun z=>h1 z.1)] at hF
   rcases h0 with h0 | h0 <;>
   ·subst h0
    simp only [↓hcsRCk,entBsR,entSmP,entSmPl,undef,hB,hF,hl,h1,go_sem,YA,YS,YM,YL,YE,YD,YB,YN,YR,reduceIte,reduceCtorEq,↓reduceIte]
    try simp only [hB,hF,hl,h1,td,reduceCtorEq]
 ·have e0:¬ e=0:=by omega
  have e4:¬ e=4:=by omega
  rw [if_pos ⟨e0,e4⟩] at hF
  simp only [↓hcsRCk,entBsR,entSmP,entSmPl,undef,hB,hF,hl,e0,e4,go_sem,YA,YS,YM,YL,YE,YD,YB,YN,YR,reduceIte,reduceCtorEq,↓reduceIte]
  try simp only [hB,hF,hl,e0,e4,td,reduceCtorEq]
def few21 (w:DWorld) (p:DPlan):Bool:=few20 w p.2.1 && decide ((p.2.1.length≤10∧p.2.2.1.length≤12∧p.2.2.2.length≤12)∧p.2.1.length≤6)
def entFew21:Ent:=⟨9,.cons (.st (.cons (.int .i64) (.cons (.sl (.st (.cons (.int .i64) (.cons (.int .i64) (.cons (.sl (.int .i64)) (.sl (.int .i64))))))) (.cons (.sl (.st (.cons (.int .i64) (.cons (.int .i64) (.cons (.int .i64) (.cons (.int .i64) (.cons (.int .i64) (.cons (.int .i64) (.cons (.int .i64) (.cons (.int .i64) (.int .i64))))))))))) (.cons (.sl (.st (.cons (.int .i64) (.cons (.int .i64) (.cons (.int .i64) (.cons (.int .i64) (.cons (.int .i64) (.cons (.int .i64) (.cons (.int .i64) (.cons (.int .i64) (.cons (.int .i64) (.int .i64)))))))))))) (.cons (.sl (.st (.cons (.int .i64) (.cons (.int .i64) .bool)))) (.st (.cons (.int .i64) (.cons (.int .i64) (.int .i64)))))))))) (.cons (.st (.cons (.int .i64) (.cons (.sl (.st (.cons (.int .i64) .bool))) (.cons (.sl (.st (.cons (.int .i64) (.int .i64)))) (.sl (.int .i64)))))) .nil),.bool,false,none,fun _=>True,fun x=>few21 x.1 x.2.1⟩
def csFew21:List Ent:=[entFew20,entFwP] theorem hcsFew21 (f:FuncId):findEnt csFew21 f=findEnt [entFew20,entFwP] f:=rfl
theorem conFew21:Con Tryz.prog entFew21:=by
 refine con_is (C:=csFew21) x9 (by kernel_rfl) (by simp [csFew21,conFew20,conFwP]) fun x hx hf=>?_
 obtain ⟨⟨(N:Int),(A:List DArc),(C:List DCar),(Q:List DReq),(R:List DPair),(S1:Int),(S2:Int),(S3:Int)⟩,⟨(c:Int),(ss:List DStop),(L:List DLeg),(G:List Int)⟩,_⟩:=x
 dsimp only [entFew21,x9,Z19,Z20,Z23,Za,Zb,Zc,Ze];simp only [↓hcsFew21,entFew20,entFwP,undef,go_sem,YA,YS,YM,YL,YE,YD,YB,YN,YR,reduceIte,reduceCtorEq,↓reduceIte]
 try simp only [td,reduceCtorEq]
 unfold few21
 rw [Bool.eq_iff_iff]
 simp [and_assoc]
 try omega
end T
end
section
open Go.RowKit Go.IntWalk
namespace T
theorem rep_snoc20 (k:Nat) (x:Int):List.replicate k x ++ [x]=List.replicate (k+1) x:=by rw [List.replicate_succ']
def entArc21:Ent:=⟨63,.cons (.int .i64) (.cons (.int .i64) .nil),(.st (.cons (.int .i64) (.cons (.int .i64) (.cons (.sl (.int .i64)) (.sl (.int .i64)))))),false,none,fun _=>True,fun x=>arcF20 x.1 x.2.1 10 20⟩
def csArc21:List Ent:=[] theorem hcsArc21 (f:FuncId):findEnt csArc21 f=findEnt [] f:=rfl
theorem conArc21:Con Tryz.prog entArc21:=by
 refine con_is (C:=csArc21) x63 (by kernel_rfl) (by simp [csArc21]) fun x _ hf=>?_
 obtain ⟨(f:Int),(t:Int),_⟩:=x
 dsimp only [entArc21,x63,Z1,Z13,Zb,Zg];simp only [↓hcsArc21,go_sem,YA,YS,YM,YL,YE,YD,YB,YN,YR,reduceIte,reduceCtorEq,↓reduceIte]
 refine XW_first 1000 x63_0d [0,4] Nat (fun k=>[(6,.val (.int .i64) (k:Int))]) (fun k=>[(4,.box 126 [.val (.int .i64) f,.val (.int .i64) t,.own 100,.own 101]),(100,.row 3 (.int .i64) (List.replicate k 10)),(101,.row 3 (.int .i64) (List.replicate k 20))])
  (fun k=>1≤k∧k≤24) (fun k=>24 - k) 24 ?_ ?_
 ·dsimp only [x63_0,x63_0d,Z1,Z11,Za,Zb,Zc];simp only [↓hcsArc21,go_sem,YA,YS,YM,YL,YE,YD,YB,YN,YR,reduceIte,reduceCtorEq,↓reduceIte]
  try simp only [td,reduceCtorEq]
  exact ⟨fun _=>⟨1,by omega,⟨by omega,by omega⟩,i64_in _ (by omega),rfl,rfl⟩,fun h=>by omega⟩
 ·intro k hk
  dsimp only [x63_0,x63_0d,Z1,Z11,Za,Zb,Zc];simp only [↓hcsArc21,go_sem,YA,YS,YM,YL,YE,YD,YB,YN,YR,reduceIte,reduceCtorEq,↓reduceIte]
  try simp only [td,reduceCtorEq]
  refine ⟨fun h=>⟨?_,?_,k+1,by omega,⟨by omega,by omega⟩,i64_in _ (by omega),rep_snoc20 _ _,rep_snoc20 _ _⟩,fun h=>?_⟩
  ·rw [List.length_replicate];omega
  ·rw [List.length_replicate];omega
  ·obtain rfl:k=24:=by omega
   rfl
def entTown21:Ent:=⟨27,.cons (.int .i64) .nil,(.st (.cons (.int .i64) (.cons (.sl (.st (.cons (.int .i64) (.cons (.int .i64) (.cons (.sl (.int .i64)) (.sl (.int .i64))))))) (.cons (.sl (.st (.cons (.int .i64) (.cons (.int .i64) (.cons (.int .i64) (.cons (.int .i64) (.cons (.int .i64) (.cons (.int .i64) (.cons (.int .i64) (.cons (.int .i64) (.int .i64))))))))))) (.cons (.sl (.st (.cons (.int .i64) (.cons (.int .i64) (.cons (.int .i64) (.cons (.int .i64) (.cons (.int .i64) (.cons (.int .i64) (.cons (.int .i64) (.cons (.int .i64) (.cons (.int .i64) (.int .i64)))))))))))) (.cons (.sl (.st (.cons (.int .i64) (.cons (.int .i64) .bool)))) (.st (.cons (.int .i64) (.cons (.int .i64) (.int .i64)))))))))),false,none,fun _=>True,fun x=>town21 x.1⟩
def csTown21:List Ent:=[entArc21] theorem hcsTown21 (f:FuncId):findEnt csTown21 f=findEnt [entArc21] f:=rfl
theorem conTown21:Con Tryz.prog entTown21:=by
 refine con_is (C:=csTown21) x27 (by kernel_rfl) (by simp [csTown21,conArc21]) fun x _ hf=>?_
 obtain ⟨(s:Int),_⟩:=x
 dsimp only [entTown21,x27,Z1,Z13,Z17,Z18,Z22,Z23,Z5,Z6,Z7];simp only [↓hcsTown21,entArc21,undef,go_sem,YA,YS,YM,YL,YE,YD,YB,YN,YR,reduceIte,reduceCtorEq,↓reduceIte]
 try simp only [td,reduceCtorEq]
 all_goals rfl
def entOf21:Ent:=⟨12,.cons (.st (.cons (.int .i64) (.cons (.sl (.st (.cons (.int .i64) (.cons (.int .i64) (.cons (.sl (.int .i64)) (.sl (.int .i64))))))) (.cons (.sl (.st (.cons (.int .i64) (.cons (.int .i64) (.cons (.int .i64) (.cons (.int .i64) (.cons (.int .i64) (.cons (.int .i64) (.cons (.int .i64) (.cons (.int .i64) (.int .i64))))))))))) (.cons (.sl (.st (.cons (.int .i64) (.cons (.int .i64) (.cons (.int .i64) (.cons (.int .i64) (.cons (.int .i64) (.cons (.int .i64) (.cons (.int .i64) (.cons (.int .i64) (.cons (.int .i64) (.int .i64)))))))))))) (.cons (.sl (.st (.cons (.int .i64) (.cons (.int .i64) .bool)))) (.st (.cons (.int .i64) (.cons (.int .i64) (.int .i64)))))))))) .nil,(.st (.cons (.int .i64) (.cons (.sl (.st (.cons (.int .i64) (.cons (.int .i64) (.cons (.sl (.int .i64)) (.sl (.int .i64))))))) (.cons (.sl (.st (.cons (.int .i64) (.cons (.int .i64) (.cons (.int .i64) (.cons (.int .i64) (.cons (.int .i64) (.cons (.int .i64) (.cons (.int .i64) (.cons (.int .i64) (.int .i64))))))))))) (.cons (.sl (.st (.cons (.int .i64) (.cons (.int .i64) (.cons (.int .i64) (.cons (.int .i64) (.cons (.int .i64) (.cons (.int .i64) (.cons (.int .i64) (.cons (.int .i64) (.cons (.int .i64) (.int .i64)))))))))))) (.cons (.sl (.st (.cons (.int .i64) (.cons (.int .i64) .bool)))) (.st (.cons (.int .i64) (.cons (.int .i64) (.int .i64)))))))))),false,none,fun _=>True,fun x=>x.1⟩
def csOf21:List Ent:=[] theorem hcsOf21 (f:FuncId):findEnt csOf21 f=findEnt [] f:=rfl
theorem conOf21:Con Tryz.prog entOf21:=by
 refine con_is (C:=csOf21) x12 (by kernel_rfl) (by simp [csOf21]) fun x hx hf=>?_
 obtain ⟨⟨(N:Int),(A:List DArc),(C:List DCar),(Q:List DReq),(P:List DPair),(S1:Int),(S2:Int),(S3:Int)⟩,_⟩:=x
 dsimp only [entOf21,x12,Z1,Z17,Z21,Z22,Z23,Z5,Z7,Zb,Zd];simp only [↓hcsOf21,undef,go_sem,YA,YS,YM,YL,YE,YD,YB,YN,YR,reduceIte,reduceCtorEq,↓reduceIte]
 try simp only [td,reduceCtorEq]
def entLin21:Ent:=⟨20,.cons (.sl (.st (.cons (.int .i64) (.cons (.int .i64) (.cons (.int .i64) (.int .i64)))))) .nil,.sl (.st (.cons (.int .i64) (.cons (.int .i64) (.cons (.int .i64) (.int .i64))))),false,none,fun x=>List.length (α:=DPlace) x.1≤1000,fun x=>x.1⟩
def csLin21:List Ent:=[] theorem hcsLin21 (f:FuncId):findEnt csLin21 f=findEnt [] f:=rfl
theorem conLin21:Con Tryz.prog entLin21:=by
 refine con_is (C:=csLin21) x20 (by kernel_rfl) (by simp [csLin21]) fun x hx hf=>?_
 obtain ⟨(l:List DPlace),_⟩:=x
 have hl:l.length≤1000:=hx
 dsimp only [entLin21,x20,Z9,Zb,Zg];simp only [↓hcsLin21,go_sem,YA,YS,YM,YL,YE,YD,YB,YN,YR,reduceIte,reduceCtorEq,↓reduceIte];try simp only [td,reduceCtorEq]
 refine XW_for 1000 x20_0d [0] Nat (fun j=>[(4,.val (.int .i64) (j:Int)),(3,.own 1)]) (fun j=>[(1,.row 57 (.st (.cons (.int .i64) (.cons (.int .i64) (.cons (.int .i64) (.int .i64))))) (l.take j))]) (fun j=>j≤l.length) (fun j=>l.length - j) 0 ?_ ?_ ?_
 ·dsimp only [x20_0d];simp only [go_sem,YA,YS,YM,YL,YE,YD,YB,YN,YR,reduceIte,reduceCtorEq,↓reduceIte];try trivial
 ·exact Nat.zero_le _
 intro j hj
 have hlt:(l.take j).length=j:=by rw [List.length_take];omega
 have w2:j < l.length→IntKind.i64.wrap ((j:Int)+1)=((j+1:Nat):Int):=fun h=>i64_in _ (by omega)
 have hs:j < l.length→l.take j ++ [((l.getD j (0,0,0,0)).1,(l.getD j (0,0,0,0)).2.1,(l.getD j (0,0,0,0)).2.2.1,(l.getD j (0,0,0,0)).2.2.2)]=l.take (j+1):=fun h=>by
  show l.take j ++ [l.getD j (0,0,0,0)]=_
  rw [List.take_succ_eq_append_getElem h]
  simp [List.getD,h]
 dsimp only [x20_0,x20_0d,Z1,Z9,Za,Zc,Zf];simp only [↓hcsLin21,hlt,go_sem,YA,YS,YM,YL,YE,YD,YB,YN,YR,reduceIte,reduceCtorEq,↓reduceIte]
 try simp only [hlt,td,reduceCtorEq]
 exact ⟨fun hj'=>⟨⟨hj',hj',hj',hj',by omega⟩,j+1,by omega,hj',w2 hj',hs hj'⟩,fun hj'=>List.take_of_length_le (by omega)⟩
def entSam21:Ent:=⟨15,.cons (.sl (.st (.cons (.int .i64) (.cons (.int .i64) (.cons (.int .i64) (.int .i64)))))) (.cons (.sl (.st (.cons (.int .i64) (.cons (.int .i64) (.cons (.int .i64) (.int .i64)))))) .nil),.bool,false,none,fun _=>True,fun x=>decide ((x.1:List DPlace)=x.2.1)⟩
def csSam21:List Ent:=[] theorem hcsSam21 (f:FuncId):findEnt csSam21 f=findEnt [] f:=rfl
theorem conSam21:Con Tryz.prog entSam21:=by
 refine con_is (C:=csSam21) x15 (by kernel_rfl) (by simp [csSam21]) fun x hx hf=>?_
 obtain ⟨(a:List DPlace),(b:List DPlace),_⟩:=x
 have hl:a.length≤9223372036854775807:=hf.1.1
 by_cases hab:a.length=b.length
 ·have habi:(a.length:Int)=(b.length:Int):=by omega
  dsimp only [entSam21,x15,Zb,Zg];simp only [↓hcsSam21,habi,go_sem,YA,YS,YM,YL,YE,YD,YB,YN,YR,reduceIte,reduceCtorEq,↓reduceIte]
  try simp only [habi,td,reduceCtorEq]
  refine XW_for 1000 x15_0d [] Nat (fun j=>[(5,.val (.int .i64) (j:Int))]) (fun _=>[]) (fun j=>j≤a.length∧∀ i,i < j→a.getD i dPlace=b.getD i dPlace) (fun j=>a.length - j) 0 ?_ ?_ ?_
  ·dsimp only [x15_0d];simp only [go_sem,YA,YS,YM,YL,YE,YD,YB,YN,YR,reduceIte,reduceCtorEq,↓reduceIte];try trivial
  ·exact ⟨Nat.zero_le _,fun i hi=>by omega⟩
  rintro j ⟨hj,hn⟩
  by_cases hja:j < a.length
  ·have hjb:j < b.length:=by omega
   have w2:IntKind.i64.wrap ((j:Int)+1)=((j+1:Nat):Int):=i64_in _ (by omega)
   have hne:a.getD j dPlace≠b.getD j dPlace→decide (a=b)=false:=fun h=>decide_eq_false fun z=>h (by rw [z])
   have hnx:a.getD j dPlace=b.getD j dPlace→∀ i,i < j+1→a.getD i dPlace=b.getD i dPlace:=fun h i hi=>by
    rcases Nat.lt_or_ge i j with q | q
    ·exact hn i q
    ·rw [show i=j by omega];exact h
   generalize hA:a.getD j dPlace=u at hne hnx
   generalize hB:b.getD j dPlace=v at hne hnx
   obtain ⟨u1,u2,u3,u4⟩:=u
   obtain ⟨v1,v2,v3,v4⟩:=v
   have huv:((u1,u2,u3,u4)=(v1,v2,v3,v4)) ↔ u1=v1∧u2=v2∧u3=v3∧u4=v4:=by simp
   dsimp only [x15_0,x15_0d,Z1,Z9,Za,Zc,Zf,Zh];simp only [↓hcsSam21,hja,hjb,w2,hA,hB,habi,go_sem,YA,YS,YM,YL,YE,YD,YB,YN,YR,reduceIte,reduceCtorEq,↓reduceIte]
   try simp only [hja,hjb,w2,hA,hB,habi,td,reduceCtorEq]
   exact ⟨fun h=>(hne (fun q=>by obtain ⟨e1,e2,e3,e4⟩:=huv.1 q;rcases h with ((h | h) | h) | h <;> contradiction)).symm,fun h=>⟨j+1,by omega,⟨by omega,hnx (huv.2 ⟨h.1.1.1,h.1.1.2,h.1.2,h.2⟩)⟩,rfl⟩⟩
  ·have hjb:¬ j < b.length:=by omega
   have heq:decide (a=b)=true:=decide_eq_true (ext_getD dPlace hab fun i hi=>hn i (by omega))
   dsimp only [x15_0,x15_0d,Z1,Z9,Za,Zc,Zf,Zh];simp only [↓hcsSam21,hja,hjb,habi,heq,go_sem,YA,YS,YM,YL,YE,YD,YB,YN,YR,reduceIte,reduceCtorEq,↓reduceIte]
   try simp only [hja,hjb,habi,heq,td,reduceCtorEq]
 ·have habi:¬ (a.length:Int)=(b.length:Int):=by omega
  have hne:decide (a=b)=false:=decide_eq_false fun z=>hab (by rw [z])
  dsimp only [entSam21,x15,Zb,Zg];simp only [↓hcsSam21,hab,habi,hne,go_sem,YA,YS,YM,YL,YE,YD,YB,YN,YR,reduceIte,reduceCtorEq,↓reduceIte]
  try simp only [hab,habi,hne,td,reduceCtorEq]
def entSmall21:Ent:=⟨8,.nil,.bool,false,none,fun _=>True,fun _=>true⟩
abbrev DBest:=DPlan × Int × Int × List DPlace × Int
def iTo (so:Int→DWorld):Ent:={ entTown21 with F:=fun x=>so x.1 }
def iMk (mk:DWorld→Int→List DStop→DPlan × Int):Ent:={ entMk with F:=fun x=>((mk x.1 x.2.1 x.2.2.1).1,(mk x.1 x.2.1 x.2.2.1).2,()) }
def iBs (bs:DWorld→DPlan→Int→DBest):Ent:={ entBst with F:=fun x=>((bs x.1 x.2.1 x.2.2.1).1,(bs x.1 x.2.1 x.2.2.1).2.1,(bs x.1 x.2.1 x.2.2.1).2.2.1,(bs x.1 x.2.1 x.2.2.1).2.2.2.1,(bs x.1 x.2.1 x.2.2.1).2.2.2.2,()) }
def iCk (ck:DWorld→DPlan→Int→DPlan→List DPlace→Int):Ent:={ entICk with F:=fun x=>ck x.1 x.2.1 x.2.2.1 x.2.2.2.1 x.2.2.2.2.1 }
def csSmall21 (so:Int→DWorld) (mk:DWorld→Int→List DStop→DPlan × Int) (bs:DWorld→DPlan→Int→DBest) (ck:DWorld→DPlan→Int→DPlan→List DPlace→Int):List Ent:=[iTo so,iMk mk,iBs bs,iCk ck]
theorem hcsSmall21 (so:Int→DWorld) (mk:DWorld→Int→List DStop→DPlan × Int) (bs:DWorld→DPlan→Int→DBest) (ck:DWorld→DPlan→Int→DPlan→List DPlace→Int) (f:FuncId):findEnt (csSmall21 so mk bs ck) f=findEnt [iTo so,iMk mk,iBs bs,iCk ck] f:=rfl
theorem ismall_gen {so:Int→DWorld} {mk:DWorld→Int→List DStop→DPlan × Int} {bs:DWorld→DPlan→Int→DBest} {ck:DWorld→DPlan→Int→DPlan→List DPlace→Int}
  (c1:Con Tryz.prog (iTo so)) (c2:Con Tryz.prog (iMk mk)) (c3:Con Tryz.prog (iBs bs)) (c4:Con Tryz.prog (iCk ck))
  (a1:mk (so 1) 0 []=((0,[],[],[0]),0)) (a2:bs (so 1) (0,[],[],[0]) 0=((0,[(0,true),(0,false)],[(0,0),(10,20)],[0,0,0]),0,0,[(0,0,0,20)],0)) (a3:bs (so 0) (0,[],[],[0]) 0=((0,[],[],[]),0,0,[(0,0,27,0)],4))
  (a4:ck (so 1) (0,[],[],[0]) 0 (0,[(0,true),(0,false)],[(0,0),(10,20)],[0,0,0]) [(0,0,0,20)]=0) (a5:ck (so 0) (0,[],[],[0]) 0 (0,[],[],[]) [(0,0,27,0)]=0):Con Tryz.prog entSmall21:=by
 refine con_is (C:=csSmall21 so mk bs ck) x8 (by kernel_rfl) (by simp [csSmall21,c1,c2,c3,c4]) fun x _ hf=>?_
 dsimp only [entSmall21,x8,Z1,Z19,Z20,Z8,Z9,Za,Zb,Zc,Ze,Zf,Zg,Zh];simp only [↓hcsSmall21,iTo,iMk,iBs,iCk,entTown21,entMk,entBst,entICk,undef,a1,a2,a3,a4,a5,go_sem,YA,YS,YM,YL,YE,YD,YB,YN,YR,reduceIte,reduceCtorEq,↓reduceIte]
 try simp only [a1,a2,a3,a4,a5,td,reduceCtorEq]
 decide
theorem conSmall21:Con Tryz.prog entSmall21:=ismall_gen (so:=town21) (mk:=makeF) (bs:=bestF) (ck:=checkI) conTown21 conMk conBst conICk m21 be21 bz21 ck21 cz21
end T
end
section
open Go.RowKit Go.IntWalk
namespace T
def entTells21:Ent:=⟨3,.cons (.st (.cons (.int .i64) (.cons (.sl (.st (.cons (.int .i64) (.cons (.int .i64) (.cons (.sl (.int .i64)) (.sl (.int .i64))))))) (.cons (.sl (.st (.cons (.int .i64) (.cons (.int .i64) (.cons (.int .i64) (.cons (.int .i64) (.cons (.int .i64) (.cons (.int .i64) (.cons (.int .i64) (.cons (.int .i64) (.int .i64))))))))))) (.cons (.sl (.st (.cons (.int .i64) (.cons (.int .i64) (.cons (.int .i64) (.cons (.int .i64) (.cons (.int .i64) (.cons (.int .i64) (.cons (.int .i64) (.cons (.int .i64) (.cons (.int .i64) (.int .i64)))))))))))) (.cons (.sl (.st (.cons (.int .i64) (.cons (.int .i64) .bool)))) (.st (.cons (.int .i64) (.cons (.int .i64) (.int .i64)))))))))) (.cons (.st (.cons (.int .i64) (.cons (.sl (.st (.cons (.int .i64) .bool))) (.cons (.sl (.st (.cons (.int .i64) (.int .i64)))) (.sl (.int .i64)))))) (.cons (.int .i64) (.cons (.st (.cons (.int .i64) (.cons (.sl (.st (.cons (.int .i64) .bool))) (.cons (.sl (.st (.cons (.int .i64) (.int .i64)))) (.sl (.int .i64)))))) (.cons (.sl (.st (.cons (.int .i64) (.cons (.int .i64) (.cons (.int .i64) (.int .i64)))))) (.cons (.int .i64) (.cons (.int .i64) .nil)))))),.bool,false,none,fun _=>True,fun _=>true⟩
def csTells21:List Ent:=[entSmall21,entFew21,entFwP,entOf21,entBst,entBsR,entSmP,entSam21,entIst,entRst21,entSmSt,entICk,entRCk,entLin21] theorem hcsTells21 (f:FuncId):findEnt csTells21 f=findEnt [entSmall21,entFew21,entFwP,entOf21,entBst,entBsR,entSmP,entSam21,entIst,entRst21,entSmSt,entICk,entRCk,entLin21] f:=rfl
theorem lines_few (w:DWorld) (p:DPlan) (r:Int) (h:p.2.1.length≤20):(bestF w p r).2.2.2.1.length≤1000:=by
 have h1:(linesI w p r).length≤441:=by
  rw [lines_len]
  exact Nat.le_trans (offI_le _ _) (Nat.le_trans (Nat.mul_le_mul (show p.2.1.length+1≤21 by omega) (show p.2.1.length+1≤21 by omega)) (by decide))
 unfold bestF
 split
 ·exact Nat.zero_le _
 ·split <;> dsimp only <;> omega
theorem few21_len {w:DWorld} {p:DPlan} (h:few21 w p=true):p.2.1.length≤6:=by
 unfold few21 at h;rw [Bool.and_eq_true] at h;exact (of_decide_eq_true h.2).2
set_option maxHeartbeats 4000000 in
theorem conTells21:Con Tryz.prog entTells21:=by
 refine con_is (C:=csTells21) x3 (by kernel_rfl) (by simp [csTells21,conSmall21,conFew21,conFwP,conOf21,conBst,conBsR,conSmP,conSam21,conIst,conRst21,conSmSt,conICk,conRCk,conLin21]) fun x _ hf=>?_
 obtain ⟨(w:DWorld),(p:DPlan),(r:Int),(g:DPlan),(l:List DPlace),(a:Int),(b:Int),_⟩:=x
 dsimp only [entTells21,x3,Z19,Z20,Z23,Za,Zb,Zc,Zd,Ze,Zf,Zg,Zh]
 cases h1:few21 w p
 ·simp only [↓hcsTells21,entSmall21,entFew21,entFwP,entOf21,entBst,entBsR,entSmP,entSam21,entIst,entRst21,entSmSt,entICk,entRCk,entLin21,undef,h1,go_sem,YA,YS,YM,YL,YE,YD,YB,YN,YR,reduceIte,reduceCtorEq,↓reduceIte]
  try simp only [h1,td,reduceCtorEq]
 have h2:=few21_len h1
 have h3:p.2.1.length≤20:=by omega
 have h4:p.2.1.length≤1000:=by omega
 have h5:=lines_few w p r h3
 by_cases hg:g.2.1.length≤10∧g.2.2.1.length≤12∧g.2.2.2.length≤12
 ·have h6:decide (g.2.1.length≤10∧g.2.2.1.length≤12∧g.2.2.2.length≤12)=true:=decide_eq_true hg
  by_cases hl:l.length≤40
  ·have hl1:l.length≤1000:=by omega
   have hl2:(l.length:Int)≤40:=by omega
   have hl3:¬ (l.length:Int) > 40:=by omega
   simp only [↓hcsTells21,entSmall21,entFew21,entFwP,entOf21,entBst,entBsR,entSmP,entSam21,entIst,entRst21,entSmSt,entICk,entRCk,entLin21,undef,h1,h3,h4,h5,h6,hl1,hl2,hl3,go_sem,YA,YS,YM,YL,YE,YD,YB,YN,YR,reduceIte,reduceCtorEq,↓reduceIte]
   try simp only [h1,h3,h4,h5,h6,hl1,hl2,hl3,td,reduceCtorEq]
  ·have hl2:¬ (l.length:Int)≤40:=by omega
   have hl3:(l.length:Int) > 40:=by omega
   simp only [↓hcsTells21,entSmall21,entFew21,entFwP,entOf21,entBst,entBsR,entSmP,entSam21,entIst,entRst21,entSmSt,entICk,entRCk,entLin21,undef,h1,h6,hl2,hl3,go_sem,YA,YS,YM,YL,YE,YD,YB,YN,YR,reduceIte,reduceCtorEq,↓reduceIte]
   try simp only [h1,h6,hl2,hl3,td,reduceCtorEq]
 ·have h6:decide (g.2.1.length≤10∧g.2.2.1.length≤12∧g.2.2.2.length≤12)=false:=decide_eq_false hg
  simp only [↓hcsTells21,entSmall21,entFew21,entFwP,entOf21,entBst,entBsR,entSmP,entSam21,entIst,entRst21,entSmSt,entICk,entRCk,entLin21,undef,h1,h6,go_sem,YA,YS,YM,YL,YE,YD,YB,YN,YR,reduceIte,reduceCtorEq,↓reduceIte]
  try simp only [h1,h6,td,reduceCtorEq]
end T
end
end Go.Proofs.YtjlofnjlhgbmoaaGreat
