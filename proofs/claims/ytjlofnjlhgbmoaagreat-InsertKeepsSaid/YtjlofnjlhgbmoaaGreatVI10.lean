/- Parts of the proof (put together by a program): definitions, lemmas, and the law; no condition. -/
import Derived.Test.YtjlofnjlhgbmoaaGreatV50
import Derived.Test.YtjlofnjlhgbmoaaGreatV52
import Derived.Test.YtjlofnjlhgbmoaaGreatV6
set_option linter.unusedVariables false
set_option linter.unusedSimpArgs false
open Nat renaming reduceAdd → YA, reduceSub → YS, reduceMul → YM, reduceLT → YL, reduceLeDiff → YE, reduceEqDiff → YD, reduceBEq → YB, reduceBNe → YN
open List renaming reduceReplicate → YR
section
namespace Go.Proofs.YtjlofnjlhgbmoaaGreat
open Go.RowKit Go.IntWalk
namespace T
theorem few21_len2 {w:DWorld} {p:DPlan} (h:few21 w p=true):p.2.1.length≤6:=by
 unfold few21 at h;rw [Bool.and_eq_true] at h;exact (of_decide_eq_true h.2).2
theorem err_ok2 {w:DWorld} {p:DPlan} {r:Int} (h:errI w p r=0):checkP w p=0∧namedI p.2.1 r=false:=by
 unfold errI at h
 split at h
 ·cases h
 ·rename_i c
  refine ⟨Decidable.not_not.1 fun z=>c (.inr (.inl z)),?_⟩
  rw [← Bool.not_eq_true];exact fun z=>c (.inr (.inr (.inr (.inr z))))
theorem best_cases (w:DWorld) (p:DPlan) (r:Int):((bestF w p r).2.2.2.2≠0)∨∃ a b:Nat,a≤b∧b≤p.2.1.length∧errI w p r=0∧(makeF w p.1 (stopsI p.2.1 r a b)).2=0∧(bestF w p r).1=(makeF w p.1 (stopsI p.2.1 r a b)).1∧(bestF w p r).2.1=a∧(bestF w p r).2.2.1=b∧(bestF w p r).2.2.2.2=0:=by
 unfold bestF
 by_cases hE:errI w p r=0
 ·rw [if_neg (Decidable.not_not.2 hE)]
  by_cases hA:atN (linesI w p r) (linesI w p r).length < 0
  ·rw [if_pos hA];exact .inl (show (4:Int)≠0 by decide)
  ·rw [if_neg hA]
   obtain ⟨a,b,h1,h2,h3,h4⟩:=best_is (w:=w) (p:=p) (r:=r) (by omega)
   rw [h3]
   exact .inr ⟨a,b,h1,h2,hE,h4,rfl,rfl,rfl,rfl⟩
 ·rw [if_pos hE];exact .inl hE
def entKeeps21:Ent:=⟨5,.cons (.st (.cons (.int .i64) (.cons (.sl (.st (.cons (.int .i64) (.cons (.int .i64) (.cons (.sl (.int .i64)) (.sl (.int .i64))))))) (.cons (.sl (.st (.cons (.int .i64) (.cons (.int .i64) (.cons (.int .i64) (.cons (.int .i64) (.cons (.int .i64) (.cons (.int .i64) (.cons (.int .i64) (.cons (.int .i64) (.int .i64))))))))))) (.cons (.sl (.st (.cons (.int .i64) (.cons (.int .i64) (.cons (.int .i64) (.cons (.int .i64) (.cons (.int .i64) (.cons (.int .i64) (.cons (.int .i64) (.cons (.int .i64) (.cons (.int .i64) (.int .i64)))))))))))) (.cons (.sl (.st (.cons (.int .i64) (.cons (.int .i64) .bool)))) (.st (.cons (.int .i64) (.cons (.int .i64) (.int .i64)))))))))) (.cons (.st (.cons (.int .i64) (.cons (.sl (.st (.cons (.int .i64) .bool))) (.cons (.sl (.st (.cons (.int .i64) (.int .i64)))) (.sl (.int .i64)))))) (.cons (.int .i64) .nil)),.bool,false,none,fun _=>True,fun _=>true⟩
def csKeeps21:List Ent:=[entSmall21,entFew21,entOf21,entBst,entChn] theorem hcsKeeps21 (f:FuncId):findEnt csKeeps21 f=findEnt [entSmall21,entFew21,entOf21,entBst,entChn] f:=rfl
set_option maxHeartbeats 8000000 in
theorem conKeeps21:Con Tryz.prog entKeeps21:=by
 refine con_is (C:=csKeeps21) x5 (by kernel_rfl) (by simp [csKeeps21,conSmall21,conFew21,conOf21,conBst,conChn]) fun x _ hf=>?_
 obtain ⟨⟨(N:Int),(A:List DArc),(C:List DCar),(Q:List DReq),(R:List DPair),(S1:Int),(S2:Int),(S3:Int)⟩,⟨(c:Int),(ss:List DStop),(L:List DLeg),(G:List Int)⟩,(r:Int),_⟩:=x
 dsimp only [entKeeps21,x5,Z1,Z10,Z12,Z19,Z2,Z20,Z23,Z3,Za,Zb,Zc,Zd,Ze,Zf,Zg,Zi]
 cases h1:few21 (N,A,C,Q,R,S1,S2,S3) (c,ss,L,G)
 ·simp only [↓hcsKeeps21,entSmall21,entFew21,entOf21,entBst,entChn,undef,h1,go_sem,YA,YS,YM,YL,YE,YD,YB,YN,YR,reduceIte,reduceCtorEq,↓reduceIte]
  try simp only [h1,td,reduceCtorEq]
 have h2:ss.length≤6:=few21_len2 h1
 have h3:ss.length≤20:=by omega
 have h4:ss.length≤24:=by omega
 rcases best_cases (N,A,C,Q,R,S1,S2,S3) (c,ss,L,G) r with hb | ⟨a,b,hab,hbn,hE,hm,b1,b2,b3,b5⟩
 ·obtain ⟨⟨⟨q1,q2,q3,q4⟩,bp,bd,bl,e⟩,hB⟩:∃ X:DPlan × Int × Int × List DPlace × Int,bestF (N,A,C,Q,R,S1,S2,S3) (c,ss,L,G) r=X:=⟨_,rfl⟩
  rw [hB] at hb
  dsimp only at hb
  simp only [↓hcsKeeps21,entSmall21,entFew21,entOf21,entBst,entChn,undef,h1,h3,hB,hb,go_sem,YA,YS,YM,YL,YE,YD,YB,YN,YR,reduceIte,reduceCtorEq,↓reduceIte]
  try simp only [h1,h3,hB,hb,td,reduceCtorEq]
 ·obtain ⟨hck,hnm⟩:=err_ok2 hE
  dsimp only at hbn hm b1 hnm
  obtain ⟨k1,k2,k3,k4,_⟩:=made_ok hm
  obtain ⟨_,hc1⟩:=chain_ok (check_ok hck).2.1
  obtain ⟨_,hc2⟩:=chain_ok k1
  obtain ⟨⟨⟨q1,q2,q3,q4⟩,bp,bd,bl,e⟩,hB⟩:∃ X:DPlan × Int × Int × List DPlace × Int,bestF (N,A,C,Q,R,S1,S2,S3) (c,ss,L,G) r=X:=⟨_,rfl⟩
  rw [hB] at b1 b2 b3 b5
  dsimp only at b1 b2 b3 b5 hc1 hc2
  rw [← b1] at k3 k4
  dsimp only at k3 k4
  subst b2 b3 b5 k3 k4
  have s1:=stopsI_length (r:=r) hab hbn
  have hw1:(winsF (N,A,C,Q,R,S1,S2,S3) q1 ss).length=ss.length+1:=by unfold winsF;rw [List.length_map,List.length_range]
  have hw2:(winsF (N,A,C,Q,R,S1,S2,S3) q1 (stopsI ss r (a:Int) (b:Int))).length=ss.length+3:=by unfold winsF;rw [List.length_map,List.length_range,s1]
  have hr:=rides_more (N,A,C,Q,R,S1,S2,S3) (r:=r) hab hbn
  have hw0:(winsF (N,A,C,Q,R,S1,S2,S3) q1 (stopsI ss r (a:Int) (b:Int))).getD 0 (0,0)=(winsF (N,A,C,Q,R,S1,S2,S3) q1 ss).getD 0 (0,0):=by
   rw [wins_at _ _ _ (Nat.zero_le _),wins_at _ _ _ (Nat.zero_le _)];rfl
  have hwk:∀ i,i < ss.length→(winsF (N,A,C,Q,R,S1,S2,S3) q1 (stopsI ss r (a:Int) (b:Int))).getD (posI a b i+1) (0,0)=(winsF (N,A,C,Q,R,S1,S2,S3) q1 ss).getD (i+1) (0,0):=fun i hi=>by
   have:=posI_le a b i
   rw [wins_at _ _ _ (by rw [s1];omega),wins_at _ _ _ (by omega),win_keep _ _ hab hbn hnm hi]
  have hsk:∀ i,(stopsI ss r (a:Int) (b:Int)).getD (posI a b i) (0,false)=ss.getD i (0,false):=fun i=>stopsI_pos hab hbn i
  have h5:(stopsI ss r (a:Int) (b:Int)).length≤24:=by omega
  have hR1:(ridesR (N,A,C,Q,R,S1,S2,S3) ss ss.length).length≤ss.length:=by rw [picks_len];exact List.length_filter_le _ _
  generalize winsF (N,A,C,Q,R,S1,S2,S3) q1 ss=W1 at *
  generalize winsF (N,A,C,Q,R,S1,S2,S3) q1 (stopsI ss r (a:Int) (b:Int))=W2 at *
  generalize hS:stopsI ss r (a:Int) (b:Int)=S at *
  generalize ridesR (N,A,C,Q,R,S1,S2,S3) ss ss.length=R1 at *
  generalize ridesR (N,A,C,Q,R,S1,S2,S3) S S.length=R2 at *
  generalize legsF (N,A,C,Q,R,S1,S2,S3) q1 ss=L1 at *
  generalize legsF (N,A,C,Q,R,S1,S2,S3) q1 S=L2 at *
  have v1:IntKind.i64.wrap ((ss.length:Int)+1)=((ss.length+1:Nat):Int):=i64_in _ (by omega)
  have v2:IntKind.i64.wrap ((ss.length:Int)+2)=((ss.length+2:Nat):Int):=i64_in _ (by omega)
  have v3:IntKind.i64.wrap ((ss.length:Int)+3)=((ss.length+3:Nat):Int):=i64_in _ (by omega)
  have x1:¬ (a:Int) < 0:=by omega
  have x2:¬ (b:Int) < (a:Int):=by omega
  have x3:(0:Int) < ((ss.length+1:Nat):Int):=by omega
  have x4:(0:Int) < ((ss.length+3:Nat):Int):=by omega
  simp only [↓hcsKeeps21,entSmall21,entFew21,entOf21,entBst,entChn,undef,h1,h3,h4,h5,hB,hc1,hc2,hw1,hw2,s1,v1,v2,v3,x1,x2,x3,x4,hw0,go_sem,YA,YS,YM,YL,YE,YD,YB,YN,YR,reduceIte,reduceCtorEq,↓reduceIte]
  try simp only [h1,h3,h4,h5,hB,hc1,hc2,hw1,hw2,s1,v1,v2,v3,x1,x2,x3,x4,hw0,td,reduceCtorEq]
  refine ⟨by omega,Int.le_refl _,?_⟩
  refine XW_for 1000 x5_0d [0,1,11,23,40,52] Nat (fun j=>[(18,.val (.int .i64) (j:Int))]) (fun _=>[]) (fun j=>j≤ss.length) (fun j=>ss.length - j) 0 ?_ ?_ ?_
  ·dsimp only [x5_0d]
   simp only [go_sem,YA,YS,YM,YL,YE,YD,YB,YN,YR,reduceIte,reduceCtorEq,↓reduceIte]
   try trivial
  ·exact Nat.zero_le _
  intro j hj
  dsimp only [x5_0,x5_0d,Z19,Z2,Z3,Z8,Za,Zb,Zc,Zf,Zg,Zh]
  by_cases hj':j < ss.length
  ·have w1:IntKind.i64.wrap ((j:Int)+1)=((j+1:Nat):Int):=i64_in _ (by omega)
   have w2:IntKind.i64.wrap (((j+1:Nat):Int)+1)=((j+1+1:Nat):Int):=i64_in _ (by omega)
   have w3:IntKind.i64.wrap (((j+1+1:Nat):Int)+1)=((j+1+1+1:Nat):Int):=i64_in _ (by omega)
   have y5:j+1 < ss.length+1:=by omega
   have y6:((j+1:Nat):Int) < ((ss.length+1:Nat):Int):=by omega
   by_cases ca:a≤j
   ·by_cases cb:b≤j
    ·have ca':((j:Int) ≥ (a:Int))=True:=eq_true (by omega)
     have cb':((j:Int) ≥ (b:Int))=True:=eq_true (by omega)
     have ca2:(a≤j)=True:=eq_true (by omega)
     have cb2:(b≤j)=True:=eq_true (by omega)
     have hp:posI a b j=j+1+1:=by unfold posI;rw [if_pos ca,if_pos cb]
     have hs1:=hsk j
     have hs2:=hwk j hj'
     rw [hp] at hs1 hs2
     have y1:j+1+1 < ss.length+2:=by omega
     have y2:j+1+1+1 < ss.length+3:=by omega
     have y3:((j+1+1:Nat):Int) < ((ss.length+2:Nat):Int):=by omega
     have y4:((j+1+1+1:Nat):Int) < ((ss.length+3:Nat):Int):=by omega
     simp only [↓hcsKeeps21,entSmall21,entFew21,entOf21,entBst,entChn,undef,hj',w1,w2,w3,ca',cb',ca2,cb2,hs1,hs2,y1,y2,y3,y4,y5,y6,s1,hw1,hw2,Int.toNat_natCast,go_sem,YA,YS,YM,YL,YE,YD,YB,YN,YR,reduceIte,reduceCtorEq,↓reduceIte]
     try simp only [hj',w1,w2,w3,ca',cb',ca2,cb2,hs1,hs2,y1,y2,y3,y4,y5,y6,s1,hw1,hw2,Int.toNat_natCast,td,reduceCtorEq]
     exact ⟨j+1,by omega,hj',rfl⟩
    ·have ca':((j:Int) ≥ (a:Int))=True:=eq_true (by omega)
     have cb':((j:Int) ≥ (b:Int))=False:=eq_false (by omega)
     have ca2:(a≤j)=True:=eq_true (by omega)
     have cb2:(b≤j)=False:=eq_false (by omega)
     have hp:posI a b j=j+1:=by unfold posI;rw [if_pos ca,if_neg cb]
     have hs1:=hsk j
     have hs2:=hwk j hj'
     rw [hp] at hs1 hs2
     have y1:j+1 < ss.length+2:=by omega
     have y2:j+1+1 < ss.length+3:=by omega
     have y3:((j+1:Nat):Int) < ((ss.length+2:Nat):Int):=by omega
     have y4:((j+1+1:Nat):Int) < ((ss.length+3:Nat):Int):=by omega
     simp only [↓hcsKeeps21,entSmall21,entFew21,entOf21,entBst,entChn,undef,hj',w1,w2,w3,ca',cb',ca2,cb2,hs1,hs2,y1,y2,y3,y4,y5,y6,s1,hw1,hw2,Int.toNat_natCast,go_sem,YA,YS,YM,YL,YE,YD,YB,YN,YR,reduceIte,reduceCtorEq,↓reduceIte]
     try simp only [hj',w1,w2,w3,ca',cb',ca2,cb2,hs1,hs2,y1,y2,y3,y4,y5,y6,s1,hw1,hw2,Int.toNat_natCast,td,reduceCtorEq]
     exact ⟨j+1,by omega,hj',rfl⟩
   ·have cb:¬ b≤j:=by omega
    have ca':((j:Int) ≥ (a:Int))=False:=eq_false (by omega)
    have cb':((j:Int) ≥ (b:Int))=False:=eq_false (by omega)
    have ca2:(a≤j)=False:=eq_false (by omega)
    have cb2:(b≤j)=False:=eq_false (by omega)
    have hp:posI a b j=j:=by unfold posI;rw [if_neg ca,if_neg cb];try rfl
    have hs1:=hsk j
    have hs2:=hwk j hj'
    rw [hp] at hs1 hs2
    have y1:j < ss.length+2:=by omega
    have y2:j+1 < ss.length+3:=by omega
    have y3:((j:Nat):Int) < ((ss.length+2:Nat):Int):=by omega
    have y4:((j+1:Nat):Int) < ((ss.length+3:Nat):Int):=by omega
    simp only [↓hcsKeeps21,entSmall21,entFew21,entOf21,entBst,entChn,undef,hj',w1,w2,w3,ca',cb',ca2,cb2,hs1,hs2,y1,y2,y3,y4,y5,y6,s1,hw1,hw2,Int.toNat_natCast,go_sem,YA,YS,YM,YL,YE,YD,YB,YN,YR,reduceIte,reduceCtorEq,↓reduceIte]
    try simp only [hj',w1,w2,w3,ca',cb',ca2,cb2,hs1,hs2,y1,y2,y3,y4,y5,y6,s1,hw1,hw2,Int.toNat_natCast,td,reduceCtorEq]
    exact ⟨j+1,by omega,hj',rfl⟩
  ·simp only [↓hcsKeeps21,entSmall21,entFew21,entOf21,entBst,entChn,undef,hj',hr,go_sem,YA,YS,YM,YL,YE,YD,YB,YN,YR,reduceIte,reduceCtorEq,↓reduceIte]
   try simp only [hj',hr,td,reduceCtorEq]
   exact (i64_in ((R1.length:Int)+1) (by omega)).symm
end T
end Go.Proofs.YtjlofnjlhgbmoaaGreat
end
