/- Parts of the proof (put together by a program): definitions, lemmas, and the law; no condition. -/
import Derived.Test.YtjlofnjlhgbmoaaGreatV44
import Derived.Test.YtjlofnjlhgbmoaaGreatV48
import Derived.Test.YtjlofnjlhgbmoaaGreatV50
import Derived.Test.YtjlofnjlhgbmoaaGreatV6
set_option linter.unusedVariables false
set_option linter.unusedSimpArgs false
open Nat renaming reduceAdd → YA, reduceSub → YS, reduceMul → YM, reduceLT → YL, reduceLeDiff → YE, reduceEqDiff → YD, reduceBEq → YB, reduceBNe → YN
open List renaming reduceReplicate → YR
section
namespace Go.Proofs.YtjlofnjlhgbmoaaGreat
open Go.RowKit Go.IntWalk
namespace T
theorem few21_len' {w:DWorld} {p:DPlan} (h:few21 w p=true):p.2.1.length≤6:=by
 unfold few21 at h;rw [Bool.and_eq_true] at h;exact (of_decide_eq_true h.2).2
theorem err_ok {w:DWorld} {p:DPlan} {r:Int} (h:errI w p r=0):rightP w=true∧checkP w p=0∧0≤r∧r < w.2.2.2.1.length∧namedI p.2.1 r=false:=by
 unfold errI at h
 split at h
 ·cases h
 ·rename_i c
  refine ⟨?_,Decidable.not_not.1 fun z=>c (.inr (.inl z)),Int.not_lt.1 fun z=>c (.inr (.inr (.inl z))),Int.not_le.1 fun z=>c (.inr (.inr (.inr (.inl z)))),?_⟩
  ·rw [← Bool.not_eq_false];exact fun z=>c (.inl z)
  ·rw [← Bool.not_eq_true];exact fun z=>c (.inr (.inr (.inr (.inr z))))
def entBest21:Ent:=⟨4,.cons (.st (.cons (.int .i64) (.cons (.sl (.st (.cons (.int .i64) (.cons (.int .i64) (.cons (.sl (.int .i64)) (.sl (.int .i64))))))) (.cons (.sl (.st (.cons (.int .i64) (.cons (.int .i64) (.cons (.int .i64) (.cons (.int .i64) (.cons (.int .i64) (.cons (.int .i64) (.cons (.int .i64) (.cons (.int .i64) (.int .i64))))))))))) (.cons (.sl (.st (.cons (.int .i64) (.cons (.int .i64) (.cons (.int .i64) (.cons (.int .i64) (.cons (.int .i64) (.cons (.int .i64) (.cons (.int .i64) (.cons (.int .i64) (.cons (.int .i64) (.int .i64)))))))))))) (.cons (.sl (.st (.cons (.int .i64) (.cons (.int .i64) .bool)))) (.st (.cons (.int .i64) (.cons (.int .i64) (.int .i64)))))))))) (.cons (.st (.cons (.int .i64) (.cons (.sl (.st (.cons (.int .i64) .bool))) (.cons (.sl (.st (.cons (.int .i64) (.int .i64)))) (.sl (.int .i64)))))) (.cons (.int .i64) .nil)),.bool,false,none,fun _=>True,fun _=>true⟩
def csBest21:List Ent:=[entSmall21,entFew21,entOf21,entBst,entCkP,entRst21,entMk,entEnd,entSmSt] theorem hcsBest21 (f:FuncId):findEnt csBest21 f=findEnt [entSmall21,entFew21,entOf21,entBst,entCkP,entRst21,entMk,entEnd,entSmSt] f:=rfl
set_option maxHeartbeats 8000000 in
theorem conBest21:Con Tryz.prog entBest21:=by
 refine con_is (C:=csBest21) x4 (by kernel_rfl) (by simp [csBest21,conSmall21,conFew21,conOf21,conBst,conCkP,conRst21,conMk,conEnd,conSmSt]) fun x _ hf=>?_
 obtain ⟨⟨(N:Int),(A:List DArc),(C:List DCar),(Q:List DReq),(R:List DPair),(S1:Int),(S2:Int),(S3:Int)⟩,⟨(c:Int),(ss:List DStop),(L:List DLeg),(G:List Int)⟩,(r:Int),_⟩:=x
 dsimp only [entBest21,x4,Z1,Z19,Z20,Z23,Z9,Za,Zb,Zc,Zd,Ze,Zf,Zg,Zh]
 cases h1:few21 (N,A,C,Q,R,S1,S2,S3) (c,ss,L,G)
 ·simp only [↓hcsBest21,entSmall21,entFew21,entOf21,entBst,entCkP,entRst21,entMk,entEnd,entSmSt,undef,h1,go_sem,YA,YS,YM,YL,YE,YD,YB,YN,YR,reduceIte,reduceCtorEq,↓reduceIte]
  try simp only [h1,td,reduceCtorEq]
 have h2:ss.length≤6:=few21_len' h1
 have h3:ss.length≤20:=by omega
 have h4:ss.length≤24:=by omega
 by_cases hE:errI (N,A,C,Q,R,S1,S2,S3) (c,ss,L,G) r=0
 ·obtain ⟨_,hck,_,_,_⟩:=err_ok hE
  obtain ⟨LL,hLL⟩:∃ LL,linesI (N,A,C,Q,R,S1,S2,S3) (c,ss,L,G) r=LL:=⟨_,rfl⟩
  have hlen:=lines_len (N,A,C,Q,R,S1,S2,S3) (c,ss,L,G) r
  rw [hLL] at hlen
  dsimp only at hlen
  have hsm:=offI_small ss.length (by omega)
  rw [← hlen] at hsm
  have hat:∀ j i,j≤ss.length→i < ss.length+1 - j→LL.getD (offI ss.length j+i) dPlace=lineI (N,A,C,Q,R,S1,S2,S3) (c,ss,L,G) r j (j+i)∧offI ss.length j+i < LL.length:=fun j i hj hi=>by
   have:=lines_at (N,A,C,Q,R,S1,S2,S3) (c,ss,L,G) r hj hi
   rw [hLL] at this
   exact this.2
  have hF:bestF (N,A,C,Q,R,S1,S2,S3) (c,ss,L,G) r=if atN LL LL.length < 0 then (noPlan,0,0,LL,4) else (planI (N,A,C,Q,R,S1,S2,S3) (c,ss,L,G) r (LL.getD (atN LL LL.length).toNat dPlace),(LL.getD (atN LL LL.length).toNat dPlace).1,(LL.getD (atN LL LL.length).toNat dPlace).2.1,LL,0):=by
   unfold bestF;rw [if_neg (Decidable.not_not.2 hE),hLL]
  have hp42:(ss.length+1) * (ss.length+2)≤7 * 8:=Nat.mul_le_mul (by omega) (by omega)
  have hL28:LL.length≤28:=by omega
  have v1:IntKind.i64.wrap ((ss.length:Int)+1)=((ss.length+1:Nat):Int):=i64_in _ (by omega)
  have v2:IntKind.i64.wrap ((ss.length:Int)+2)=((ss.length+2:Nat):Int):=i64_in _ (by omega)
  have v3:IntKind.i64.wrap (((ss.length+1:Nat):Int) * ((ss.length+2:Nat):Int))=((2 * LL.length:Nat):Int):=by
   rw [show (((ss.length+1:Nat):Int) * ((ss.length+2:Nat):Int))=(((ss.length+1) * (ss.length+2):Nat):Int) from (Int.natCast_mul _ _).symm,← hsm]
   exact i64_in _ (by omega)
  have v4:IntKind.i64.wrap (LL.length:Int)=(LL.length:Int):=i64_in _ (by omega)
  have v5:(((2 * LL.length:Nat):Int)).tdiv 2=(LL.length:Int):=by
   rw [Int.tdiv_eq_ediv_of_nonneg (by omega)];omega
  have v6:¬ (2:Int)=0:=by decide
  have v7:¬ (4:Int)=0:=by decide
  rcases Int.lt_or_le (atN LL LL.length) 0 with hA | hA
  ·rw [if_pos hA] at hF
   simp only [↓hcsBest21,entSmall21,entFew21,entOf21,entBst,entCkP,entRst21,entMk,entEnd,entSmSt,undef,h1,h3,h4,hF,noPlan,hck,v1,v2,v3,v4,v5,v6,v7,go_sem,YA,YS,YM,YL,YE,YD,YB,YN,YR,reduceIte,reduceCtorEq,↓reduceIte]
   try simp only [h1,h3,h4,hF,noPlan,hck,v1,v2,v3,v4,v5,v6,v7,td,reduceCtorEq]
   refine XW_for 1000 x4_0d [0,1,11,23] Nat (fun j=>[(17,.val (.int .i64) (j:Int)),(16,.val (.int .i64) ((offI ss.length j:Nat):Int)),(15,.val (.int .i64) (atN LL (offI ss.length j)))]) (fun _=>[]) (fun j=>j≤ss.length+1) (fun j=>ss.length+1 - j) 0 ?_ ?_ ?_
   ·dsimp only [x4_0d]
    simp only [go_sem,YA,YS,YM,YL,YE,YD,YB,YN,YR,reduceIte,reduceCtorEq,↓reduceIte]
    exact ⟨rfl,rfl,rfl⟩
   ·exact Nat.zero_le _
   intro j hj
   dsimp only [x4_0,x4_0d,Za]
   by_cases hj':j < ss.length+1
   ·have hjle:(j:Int)≤(ss.length:Int):=by omega
    have hjle':j≤ss.length:=by omega
    simp only [↓hcsBest21,entSmall21,entFew21,entOf21,entBst,entCkP,entRst21,entMk,entEnd,entSmSt,undef,hjle,hjle',go_sem,YA,YS,YM,YL,YE,YD,YB,YN,YR,reduceIte,reduceCtorEq,↓reduceIte]
    try simp only [hjle,hjle',td,reduceCtorEq]
    refine XW_for 2000 x4_1d [0,1,11,23] Nat (fun i=>[(18,.val (.int .i64) ((j+i:Nat):Int)),(16,.val (.int .i64) ((offI ss.length j+i:Nat):Int)),(15,.val (.int .i64) (atN LL (offI ss.length j+i)))]) (fun _=>[]) (fun i=>i≤ss.length+1 - j) (fun i=>ss.length+1 - j - i) 0 ?_ ?_ ?_
    ·dsimp only [x4_1d]
     simp only [go_sem,YA,YS,YM,YL,YE,YD,YB,YN,YR,reduceIte,reduceCtorEq,↓reduceIte]
     try trivial
    ·exact Nat.zero_le _
    intro i hi
    dsimp only [x4_1,x4_1d,Z1,Z19,Z20,Z23,Z9,Za,Zb,Zc,Zd,Ze,Zf,Zg]
    by_cases hi':i < ss.length+1 - j
    ·obtain ⟨hline,hkl⟩:=hat j i (by omega) hi'
     have hji:((j+i:Nat):Int)≤(ss.length:Int):=by omega
     have hji':j+i≤ss.length:=by omega
     have w2:IntKind.i64.wrap (((j+i:Nat):Int)+1)=((j+(i+1):Nat):Int):=(i64_in _ (by omega)).trans (by omega)
     have w3:IntKind.i64.wrap (((offI ss.length j+i:Nat):Int)+1)=((offI ss.length j+(i+1):Nat):Int):=(i64_in _ (by omega)).trans (by omega)
     have hsl:=stopsI_len ss r (j:Int) ((j+i:Nat):Int)
     have h24:(stopsI ss r (j:Int) ((j+i:Nat):Int)).length≤24:=by omega
     have hl3:ss.length≤1000:=by omega
     have hrng:=atN_rng LL (offI ss.length j+i)
     have hAs:atN LL (offI ss.length j+(i+1))=if (LL.getD (offI ss.length j+i) dPlace).2.2.1=0∧(atN LL (offI ss.length j+i) < 0∨(LL.getD (offI ss.length j+i) dPlace).2.2.2 < (LL.getD (atN LL (offI ss.length j+i)).toNat dPlace).2.2.2) then ((offI ss.length j+i:Nat):Int) else atN LL (offI ss.length j+i):=rfl
     have hkl2:((offI ss.length j+i:Nat):Int) < (LL.length:Int):=by omega
     by_cases hm:(makeF (N,A,C,Q,R,S1,S2,S3) c (stopsI ss r (j:Int) ((j+i:Nat):Int))).2=0
     ·have hq2:(makeF (N,A,C,Q,R,S1,S2,S3) c (stopsI ss r (j:Int) ((j+i:Nat):Int))).1.2.1=stopsI ss r (j:Int) ((j+i:Nat):Int):=(made_ok hm).2.2.2.1
      have hlo:=(line_ok (w:=(N,A,C,Q,R,S1,S2,S3)) (p:=(c,ss,L,G)) (r:=r) (a:=j) (b:=j+i) hm).2.2
      obtain ⟨⟨⟨z1,z2,z3,z4⟩,e'⟩,hmk⟩:∃ X:DPlan × Int,makeF (N,A,C,Q,R,S1,S2,S3) c (stopsI ss r (j:Int) ((j+i:Nat):Int))=X:=⟨_,rfl⟩
      obtain ⟨t,htt⟩:∃ t,(endP (N,A,C,Q,R,S1,S2,S3) (makeF (N,A,C,Q,R,S1,S2,S3) c (stopsI ss r (j:Int) ((j+i:Nat):Int))).1).1=t:=⟨_,rfl⟩
      have hen:endP (N,A,C,Q,R,S1,S2,S3) (makeF (N,A,C,Q,R,S1,S2,S3) c (stopsI ss r (j:Int) ((j+i:Nat):Int))).1=(t,0):=Prod.ext htt (line_ok (w:=(N,A,C,Q,R,S1,S2,S3)) (p:=(c,ss,L,G)) (r:=r) (a:=j) (b:=j+i) hm).2.1
      have hlo':lineI (N,A,C,Q,R,S1,S2,S3) (c,ss,L,G) r j (j+i)=((j:Int),((j+i:Nat):Int),0,t):=hlo.trans (by rw [← htt])
      rw [hlo'] at hline
      rw [hline] at hAs
      rw [hmk] at hm hq2 hen
      dsimp only at hm hq2 hAs
      subst hm
      have hq24:z2.length≤24:=by rw [hq2];exact h24
      rcases Int.lt_or_le (atN LL (offI ss.length j+i)) 0 with hm0 | hm0
      ·rw [if_pos ⟨rfl,.inl hm0⟩] at hAs
       simp only [↓hcsBest21,entSmall21,entFew21,entOf21,entBst,entCkP,entRst21,entMk,entEnd,entSmSt,undef,hji,hji',w2,w3,hmk,hen,h24,hl3,hq24,hm0,hline,hkl,hkl2,Int.toNat_natCast,go_sem,YA,YS,YM,YL,YE,YD,YB,YN,YR,reduceIte,reduceCtorEq,↓reduceIte]
       try simp only [hji,hji',w2,w3,hmk,hen,h24,hl3,hq24,hm0,hline,hkl,hkl2,Int.toNat_natCast,td,reduceCtorEq]
       exact ⟨i+1,by omega,by omega,rfl,rfl,hAs.symm⟩
      ·obtain ⟨m,hmn⟩:∃ m:Nat,atN LL (offI ss.length j+i)=m:=⟨(atN LL (offI ss.length j+i)).toNat,by omega⟩
       have hm1:m < LL.length:=by omega
       have hm2:¬ (m:Int) < 0:=by omega
       have hm3:(m:Int) < (LL.length:Int):=by omega
       have hm4:(0:Int)≤(m:Int):=by omega
       rw [hmn] at hAs
       rw [Int.toNat_natCast] at hAs
       by_cases ht:t < (LL.getD m dPlace).2.2.2
       ·rw [if_pos ⟨rfl,.inr ht⟩] at hAs
        simp only [↓hcsBest21,entSmall21,entFew21,entOf21,entBst,entCkP,entRst21,entMk,entEnd,entSmSt,undef,hji,hji',w2,w3,hmk,hen,h24,hl3,hq24,hmn,hm1,hm2,hm3,hm4,ht,hline,hkl,hkl2,Int.toNat_natCast,go_sem,YA,YS,YM,YL,YE,YD,YB,YN,YR,reduceIte,reduceCtorEq,↓reduceIte]
        try simp only [hji,hji',w2,w3,hmk,hen,h24,hl3,hq24,hmn,hm1,hm2,hm3,hm4,ht,hline,hkl,hkl2,Int.toNat_natCast,td,reduceCtorEq]
        exact ⟨i+1,by omega,by omega,rfl,rfl,hAs.symm⟩
       ·rw [if_neg (by rintro ⟨_,z | z⟩;exact hm2 z;exact ht z)] at hAs
        simp only [↓hcsBest21,entSmall21,entFew21,entOf21,entBst,entCkP,entRst21,entMk,entEnd,entSmSt,undef,hji,hji',w2,w3,hmk,hen,h24,hl3,hq24,hmn,hm1,hm2,hm3,hm4,ht,hline,hkl,hkl2,Int.toNat_natCast,go_sem,YA,YS,YM,YL,YE,YD,YB,YN,YR,reduceIte,reduceCtorEq,↓reduceIte]
        try simp only [hji,hji',w2,w3,hmk,hen,h24,hl3,hq24,hmn,hm1,hm2,hm3,hm4,ht,hline,hkl,hkl2,Int.toNat_natCast,td,reduceCtorEq]
        exact ⟨i+1,by omega,by omega,rfl,rfl,hAs.symm⟩
     ·have hln:=line_no (w:=(N,A,C,Q,R,S1,S2,S3)) (p:=(c,ss,L,G)) (r:=r) (a:=j) (b:=j+i) hm
      obtain ⟨⟨⟨z1,z2,z3,z4⟩,e'⟩,hmk⟩:∃ X:DPlan × Int,makeF (N,A,C,Q,R,S1,S2,S3) c (stopsI ss r (j:Int) ((j+i:Nat):Int))=X:=⟨_,rfl⟩
      have hln':lineI (N,A,C,Q,R,S1,S2,S3) (c,ss,L,G) r j (j+i)=((j:Int),((j+i:Nat):Int),e',0):=hln.trans (by rw [hmk])
      rw [hln'] at hline
      rw [hline] at hAs
      rw [hmk] at hm
      dsimp only at hm hAs
      rw [if_neg (fun z=>hm z.1)] at hAs
      simp only [↓hcsBest21,entSmall21,entFew21,entOf21,entBst,entCkP,entRst21,entMk,entEnd,entSmSt,undef,hji,hji',w2,w3,hmk,h24,hl3,hm,hline,hkl,hkl2,Int.toNat_natCast,go_sem,YA,YS,YM,YL,YE,YD,YB,YN,YR,reduceIte,reduceCtorEq,↓reduceIte]
      try simp only [hji,hji',w2,w3,hmk,h24,hl3,hm,hline,hkl,hkl2,Int.toNat_natCast,td,reduceCtorEq]
      exact ⟨i+1,by omega,by omega,rfl,rfl,hAs.symm⟩
    ·obtain rfl:i=ss.length+1 - j:=by omega
     have hji:¬ ((j+(ss.length+1 - j):Nat):Int)≤(ss.length:Int):=by omega
     have hji':¬ j+(ss.length+1 - j)≤ss.length:=by omega
     have w2:IntKind.i64.wrap ((j:Int)+1)=((j+1:Nat):Int):=i64_in _ (by omega)
     have hoe:offI ss.length j+(ss.length+1 - j)=offI ss.length (j+1):=rfl
     simp only [↓hcsBest21,entSmall21,entFew21,entOf21,entBst,entCkP,entRst21,entMk,entEnd,entSmSt,undef,hji,hji',w2,hoe,go_sem,YA,YS,YM,YL,YE,YD,YB,YN,YR,reduceIte,reduceCtorEq,↓reduceIte]
     try simp only [hji,hji',w2,hoe,td,reduceCtorEq]
     exact ⟨j+1,by omega,by omega,rfl,rfl,rfl⟩
   obtain rfl:j=ss.length+1:=by omega
   have hjle:¬ ((ss.length+1:Nat):Int)≤(ss.length:Int):=by omega
   have hjle':¬ ss.length+1≤ss.length:=by omega
   rw [← hlen]
   simp only [↓hcsBest21,entSmall21,entFew21,entOf21,entBst,entCkP,entRst21,entMk,entEnd,entSmSt,undef,hjle,hjle',hA,v7,go_sem,YA,YS,YM,YL,YE,YD,YB,YN,YR,reduceIte,reduceCtorEq,↓reduceIte]
   try simp only [hjle,hjle',hA,v7,td,reduceCtorEq]
   rfl
  ·rw [if_neg (by omega)] at hF
   obtain ⟨m0,hmn0⟩:∃ m:Nat,atN LL LL.length=m:=⟨(atN LL LL.length).toNat,by omega⟩
   have hrng0:=atN_rng LL LL.length
   obtain ⟨a0,b0,hab0,hb0,hl0,hm0⟩:=best_is (w:=(N,A,C,Q,R,S1,S2,S3)) (p:=(c,ss,L,G)) (r:=r) (by rw [hLL];exact hA)
   rw [hLL,hmn0,Int.toNat_natCast] at hl0
   rw [hmn0,Int.toNat_natCast,hl0] at hF
   obtain ⟨k1,k2,k3,k4,_⟩:=made_ok hm0
   obtain ⟨⟨⟨q1,q2,q3,q4⟩,e0⟩,hmk0⟩:∃ X:DPlan × Int,makeF (N,A,C,Q,R,S1,S2,S3) c (stopsI ss r (a0:Int) (b0:Int))=X:=⟨_,rfl⟩
   have hpl0:planI (N,A,C,Q,R,S1,S2,S3) (c,ss,L,G) r (lineI (N,A,C,Q,R,S1,S2,S3) (c,ss,L,G) r a0 b0)=(q1,q2,q3,q4):=by
    show (makeF (N,A,C,Q,R,S1,S2,S3) c (stopsI ss r (a0:Int) (b0:Int))).1=_
    rw [hmk0]
   rw [show makeF (N,A,C,Q,R,S1,S2,S3) (c,ss,L,G).1 (stopsI (c,ss,L,G).2.1 r (a0:Int) (b0:Int))=_ from hmk0] at k2 k3 k4
   dsimp only at k2 k3 k4
   have hF':bestF (N,A,C,Q,R,S1,S2,S3) (c,ss,L,G) r=((q1,q2,q3,q4),(a0:Int),(b0:Int),LL,0):=hF.trans (by rw [hpl0];rfl)
   have hl1:(LL.getD m0 dPlace).1=(a0:Int):=by rw [hl0];rfl
   have hl2:(LL.getD m0 dPlace).2.1=(b0:Int):=by rw [hl0];rfl
   have x1:m0 < LL.length:=by omega
   have x2:¬ (m0:Int) < 0:=by omega
   have x3:(m0:Int) < (LL.length:Int):=by omega
   have x4:(0:Int)≤(m0:Int):=by omega
   have x5:q2.length≤24:=by
    have:=stopsI_len ss r (a0:Int) (b0:Int)
    rw [k4];omega
   have x6:ss.length≤1000:=by omega
   have x7:¬ (0:Int)=4:=by decide
   simp only [↓hcsBest21,entSmall21,entFew21,entOf21,entBst,entCkP,entRst21,entMk,entEnd,entSmSt,undef,h1,h3,h4,hF',hck,v1,v2,v3,v4,v5,v6,go_sem,YA,YS,YM,YL,YE,YD,YB,YN,YR,reduceIte,reduceCtorEq,↓reduceIte]
   try simp only [h1,h3,h4,hF',hck,v1,v2,v3,v4,v5,v6,td,reduceCtorEq]
   refine XW_for 1000 x4_0d [0,1,11,23] Nat (fun j=>[(17,.val (.int .i64) (j:Int)),(16,.val (.int .i64) ((offI ss.length j:Nat):Int)),(15,.val (.int .i64) (atN LL (offI ss.length j)))]) (fun _=>[]) (fun j=>j≤ss.length+1) (fun j=>ss.length+1 - j) 0 ?_ ?_ ?_
   ·dsimp only [x4_0d]
    simp only [go_sem,YA,YS,YM,YL,YE,YD,YB,YN,YR,reduceIte,reduceCtorEq,↓reduceIte]
    exact ⟨rfl,rfl,rfl⟩
   ·exact Nat.zero_le _
   intro j hj
   dsimp only [x4_0,x4_0d,Za]
   by_cases hj':j < ss.length+1
   ·have hjle:(j:Int)≤(ss.length:Int):=by omega
    have hjle':j≤ss.length:=by omega
    simp only [↓hcsBest21,entSmall21,entFew21,entOf21,entBst,entCkP,entRst21,entMk,entEnd,entSmSt,undef,hjle,hjle',go_sem,YA,YS,YM,YL,YE,YD,YB,YN,YR,reduceIte,reduceCtorEq,↓reduceIte]
    try simp only [hjle,hjle',td,reduceCtorEq]
    refine XW_for 2000 x4_1d [0,1,11,23] Nat (fun i=>[(18,.val (.int .i64) ((j+i:Nat):Int)),(16,.val (.int .i64) ((offI ss.length j+i:Nat):Int)),(15,.val (.int .i64) (atN LL (offI ss.length j+i)))]) (fun _=>[]) (fun i=>i≤ss.length+1 - j) (fun i=>ss.length+1 - j - i) 0 ?_ ?_ ?_
    ·dsimp only [x4_1d]
     simp only [go_sem,YA,YS,YM,YL,YE,YD,YB,YN,YR,reduceIte,reduceCtorEq,↓reduceIte]
     try trivial
    ·exact Nat.zero_le _
    intro i hi
    dsimp only [x4_1,x4_1d,Z1,Z19,Z20,Z23,Z9,Za,Zb,Zc,Zd,Ze,Zf,Zg]
    by_cases hi':i < ss.length+1 - j
    ·obtain ⟨hline,hkl⟩:=hat j i (by omega) hi'
     have hji:((j+i:Nat):Int)≤(ss.length:Int):=by omega
     have hji':j+i≤ss.length:=by omega
     have w2:IntKind.i64.wrap (((j+i:Nat):Int)+1)=((j+(i+1):Nat):Int):=(i64_in _ (by omega)).trans (by omega)
     have w3:IntKind.i64.wrap (((offI ss.length j+i:Nat):Int)+1)=((offI ss.length j+(i+1):Nat):Int):=(i64_in _ (by omega)).trans (by omega)
     have hsl:=stopsI_len ss r (j:Int) ((j+i:Nat):Int)
     have h24:(stopsI ss r (j:Int) ((j+i:Nat):Int)).length≤24:=by omega
     have hl3:ss.length≤1000:=by omega
     have hrng:=atN_rng LL (offI ss.length j+i)
     have hAs:atN LL (offI ss.length j+(i+1))=if (LL.getD (offI ss.length j+i) dPlace).2.2.1=0∧(atN LL (offI ss.length j+i) < 0∨(LL.getD (offI ss.length j+i) dPlace).2.2.2 < (LL.getD (atN LL (offI ss.length j+i)).toNat dPlace).2.2.2) then ((offI ss.length j+i:Nat):Int) else atN LL (offI ss.length j+i):=rfl
     have hkl2:((offI ss.length j+i:Nat):Int) < (LL.length:Int):=by omega
     by_cases hm:(makeF (N,A,C,Q,R,S1,S2,S3) c (stopsI ss r (j:Int) ((j+i:Nat):Int))).2=0
     ·have hq2:(makeF (N,A,C,Q,R,S1,S2,S3) c (stopsI ss r (j:Int) ((j+i:Nat):Int))).1.2.1=stopsI ss r (j:Int) ((j+i:Nat):Int):=(made_ok hm).2.2.2.1
      have hlo:=(line_ok (w:=(N,A,C,Q,R,S1,S2,S3)) (p:=(c,ss,L,G)) (r:=r) (a:=j) (b:=j+i) hm).2.2
      obtain ⟨⟨⟨z1,z2,z3,z4⟩,e'⟩,hmk⟩:∃ X:DPlan × Int,makeF (N,A,C,Q,R,S1,S2,S3) c (stopsI ss r (j:Int) ((j+i:Nat):Int))=X:=⟨_,rfl⟩
      obtain ⟨t,htt⟩:∃ t,(endP (N,A,C,Q,R,S1,S2,S3) (makeF (N,A,C,Q,R,S1,S2,S3) c (stopsI ss r (j:Int) ((j+i:Nat):Int))).1).1=t:=⟨_,rfl⟩
      have hen:endP (N,A,C,Q,R,S1,S2,S3) (makeF (N,A,C,Q,R,S1,S2,S3) c (stopsI ss r (j:Int) ((j+i:Nat):Int))).1=(t,0):=Prod.ext htt (line_ok (w:=(N,A,C,Q,R,S1,S2,S3)) (p:=(c,ss,L,G)) (r:=r) (a:=j) (b:=j+i) hm).2.1
      have hlo':lineI (N,A,C,Q,R,S1,S2,S3) (c,ss,L,G) r j (j+i)=((j:Int),((j+i:Nat):Int),0,t):=hlo.trans (by rw [← htt])
      rw [hlo'] at hline
      rw [hline] at hAs
      rw [hmk] at hm hq2 hen
      dsimp only at hm hq2 hAs
      subst hm
      have hq24:z2.length≤24:=by rw [hq2];exact h24
      rcases Int.lt_or_le (atN LL (offI ss.length j+i)) 0 with hm0 | hm0
      ·rw [if_pos ⟨rfl,.inl hm0⟩] at hAs
       simp only [↓hcsBest21,entSmall21,entFew21,entOf21,entBst,entCkP,entRst21,entMk,entEnd,entSmSt,undef,hji,hji',w2,w3,hmk,hen,h24,hl3,hq24,hm0,hline,hkl,hkl2,Int.toNat_natCast,go_sem,YA,YS,YM,YL,YE,YD,YB,YN,YR,reduceIte,reduceCtorEq,↓reduceIte]
       try simp only [hji,hji',w2,w3,hmk,hen,h24,hl3,hq24,hm0,hline,hkl,hkl2,Int.toNat_natCast,td,reduceCtorEq]
       exact ⟨i+1,by omega,by omega,rfl,rfl,hAs.symm⟩
      ·obtain ⟨m,hmn⟩:∃ m:Nat,atN LL (offI ss.length j+i)=m:=⟨(atN LL (offI ss.length j+i)).toNat,by omega⟩
       have hm1:m < LL.length:=by omega
       have hm2:¬ (m:Int) < 0:=by omega
       have hm3:(m:Int) < (LL.length:Int):=by omega
       have hm4:(0:Int)≤(m:Int):=by omega
       rw [hmn] at hAs
       rw [Int.toNat_natCast] at hAs
       by_cases ht:t < (LL.getD m dPlace).2.2.2
       ·rw [if_pos ⟨rfl,.inr ht⟩] at hAs
        simp only [↓hcsBest21,entSmall21,entFew21,entOf21,entBst,entCkP,entRst21,entMk,entEnd,entSmSt,undef,hji,hji',w2,w3,hmk,hen,h24,hl3,hq24,hmn,hm1,hm2,hm3,hm4,ht,hline,hkl,hkl2,Int.toNat_natCast,go_sem,YA,YS,YM,YL,YE,YD,YB,YN,YR,reduceIte,reduceCtorEq,↓reduceIte]
        try simp only [hji,hji',w2,w3,hmk,hen,h24,hl3,hq24,hmn,hm1,hm2,hm3,hm4,ht,hline,hkl,hkl2,Int.toNat_natCast,td,reduceCtorEq]
        exact ⟨i+1,by omega,by omega,rfl,rfl,hAs.symm⟩
       ·rw [if_neg (by rintro ⟨_,z | z⟩;exact hm2 z;exact ht z)] at hAs
        simp only [↓hcsBest21,entSmall21,entFew21,entOf21,entBst,entCkP,entRst21,entMk,entEnd,entSmSt,undef,hji,hji',w2,w3,hmk,hen,h24,hl3,hq24,hmn,hm1,hm2,hm3,hm4,ht,hline,hkl,hkl2,Int.toNat_natCast,go_sem,YA,YS,YM,YL,YE,YD,YB,YN,YR,reduceIte,reduceCtorEq,↓reduceIte]
        try simp only [hji,hji',w2,w3,hmk,hen,h24,hl3,hq24,hmn,hm1,hm2,hm3,hm4,ht,hline,hkl,hkl2,Int.toNat_natCast,td,reduceCtorEq]
        exact ⟨i+1,by omega,by omega,rfl,rfl,hAs.symm⟩
     ·have hln:=line_no (w:=(N,A,C,Q,R,S1,S2,S3)) (p:=(c,ss,L,G)) (r:=r) (a:=j) (b:=j+i) hm
      obtain ⟨⟨⟨z1,z2,z3,z4⟩,e'⟩,hmk⟩:∃ X:DPlan × Int,makeF (N,A,C,Q,R,S1,S2,S3) c (stopsI ss r (j:Int) ((j+i:Nat):Int))=X:=⟨_,rfl⟩
      have hln':lineI (N,A,C,Q,R,S1,S2,S3) (c,ss,L,G) r j (j+i)=((j:Int),((j+i:Nat):Int),e',0):=hln.trans (by rw [hmk])
      rw [hln'] at hline
      rw [hline] at hAs
      rw [hmk] at hm
      dsimp only at hm hAs
      rw [if_neg (fun z=>hm z.1)] at hAs
      simp only [↓hcsBest21,entSmall21,entFew21,entOf21,entBst,entCkP,entRst21,entMk,entEnd,entSmSt,undef,hji,hji',w2,w3,hmk,h24,hl3,hm,hline,hkl,hkl2,Int.toNat_natCast,go_sem,YA,YS,YM,YL,YE,YD,YB,YN,YR,reduceIte,reduceCtorEq,↓reduceIte]
      try simp only [hji,hji',w2,w3,hmk,h24,hl3,hm,hline,hkl,hkl2,Int.toNat_natCast,td,reduceCtorEq]
      exact ⟨i+1,by omega,by omega,rfl,rfl,hAs.symm⟩
    ·obtain rfl:i=ss.length+1 - j:=by omega
     have hji:¬ ((j+(ss.length+1 - j):Nat):Int)≤(ss.length:Int):=by omega
     have hji':¬ j+(ss.length+1 - j)≤ss.length:=by omega
     have w2:IntKind.i64.wrap ((j:Int)+1)=((j+1:Nat):Int):=i64_in _ (by omega)
     have hoe:offI ss.length j+(ss.length+1 - j)=offI ss.length (j+1):=rfl
     simp only [↓hcsBest21,entSmall21,entFew21,entOf21,entBst,entCkP,entRst21,entMk,entEnd,entSmSt,undef,hji,hji',w2,hoe,go_sem,YA,YS,YM,YL,YE,YD,YB,YN,YR,reduceIte,reduceCtorEq,↓reduceIte]
     try simp only [hji,hji',w2,hoe,td,reduceCtorEq]
     exact ⟨j+1,by omega,by omega,rfl,rfl,rfl⟩
   obtain rfl:j=ss.length+1:=by omega
   have hjle:¬ ((ss.length+1:Nat):Int)≤(ss.length:Int):=by omega
   have hjle':¬ ss.length+1≤ss.length:=by omega
   rw [← hlen]
   rw [hmn0]
   simp only [↓hcsBest21,entSmall21,entFew21,entOf21,entBst,entCkP,entRst21,entMk,entEnd,entSmSt,undef,hjle,hjle',x1,x2,x3,x4,x5,x6,x7,k2,k3,hl1,hl2,Int.toNat_natCast,go_sem,YA,YS,YM,YL,YE,YD,YB,YN,YR,reduceIte,reduceCtorEq,↓reduceIte]
   try simp only [hjle,hjle',x1,x2,x3,x4,x5,x6,x7,k2,k3,k4,hl1,hl2,Int.toNat_natCast,td,reduceCtorEq]
   rw [k3,k4] at k2
   exact fun z=>z k2
 ·have hB:bestF (N,A,C,Q,R,S1,S2,S3) (c,ss,L,G) r=(noPlan,0,0,[],1):=by
   unfold bestF;rw [if_pos hE]
   unfold errI at hE ⊢
   split
   ·rfl
   ·rename_i z;rw [if_neg z] at hE;exact absurd rfl hE
  have e10:¬ (1:Int)=0:=by decide
  have e14:¬ (1:Int)=4:=by decide
  simp only [↓hcsBest21,entSmall21,entFew21,entOf21,entBst,entCkP,entRst21,entMk,entEnd,entSmSt,undef,h1,h3,hB,noPlan,e10,e14,go_sem,YA,YS,YM,YL,YE,YD,YB,YN,YR,reduceIte,reduceCtorEq,↓reduceIte]
  try simp only [h1,h3,hB,noPlan,e10,e14,td,reduceCtorEq]
  rfl
end T
end Go.Proofs.YtjlofnjlhgbmoaaGreat
end
