/- Parts of the proof (put together by a program): definitions, lemmas, and the law; no condition. -/
import Derived.Test.YtjlofnjlhgbmoaaGreatR48
import Derived.Test.YtjlofnjlhgbmoaaGreatR50
import Derived.Test.YtjlofnjlhgbmoaaGreatR6
import Derived.Test.YtjlofnjlhgbmoaaGreatRI11
set_option linter.unusedVariables false
set_option linter.unusedSimpArgs false
open Nat renaming reduceAdd → YA, reduceSub → YS, reduceMul → YM, reduceLT → YL, reduceLeDiff → YE, reduceEqDiff → YD, reduceBEq → YB, reduceBNe → YN
open List renaming reduceReplicate → YR
section
namespace Go.Proofs.YtjlofnjlhgbmoaaGreat
open Go.RowKit Go.IntWalk
namespace T
theorem best_err {w:DWorld} {p:DPlan} {r:Int} (h:(bestF w p r).2.2.2.2=0∨(bestF w p r).2.2.2.2=4):errI w p r=0:=by
 refine Decidable.byContradiction fun hE=>?_
 unfold bestF at h
 rw [if_pos hE] at h
 dsimp only at h
 have:errI w p r=1:=by
  unfold errI at hE ⊢
  split
  ·rfl
  ·rename_i z;rw [if_neg z] at hE;exact absurd rfl hE
 omega
theorem best_ok {w:DWorld} {p:DPlan} {r:Int} (h:errI w p r=0):(bestF w p r).2.2.2.1=linesI w p r∧((bestF w p r).2.2.2.2=0∧0≤atN (linesI w p r) (linesI w p r).length∨(bestF w p r).2.2.2.2=4∧atN (linesI w p r) (linesI w p r).length < 0):=by
 unfold bestF
 rw [if_neg (Decidable.not_not.2 h)]
 by_cases hA:atN (linesI w p r) (linesI w p r).length < 0
 ·rw [if_pos hA];exact ⟨rfl,.inr ⟨rfl,hA⟩⟩
 ·rw [if_neg hA];exact ⟨rfl,.inl ⟨rfl,by omega⟩⟩
theorem err_right {w:DWorld} {p:DPlan} {r:Int} (h:errI w p r=0):rightP w=true:=by
 unfold errI at h
 split at h
 ·cases h
 ·rename_i c
  rw [← Bool.not_eq_false];exact fun z=>c (.inl z)
def entRoom:Ent:=⟨6,.cons (.st (.cons (.int .i64) (.cons (.sl (.st (.cons (.int .i64) (.cons (.int .i64) (.cons (.sl (.int .i64)) (.sl (.int .i64))))))) (.cons (.sl (.st (.cons (.int .i64) (.cons (.int .i64) (.cons (.int .i64) (.cons (.int .i64) (.cons (.int .i64) (.cons (.int .i64) (.cons (.int .i64) (.cons (.int .i64) (.int .i64))))))))))) (.cons (.sl (.st (.cons (.int .i64) (.cons (.int .i64) (.cons (.int .i64) (.cons (.int .i64) (.cons (.int .i64) (.cons (.int .i64) (.cons (.int .i64) (.cons (.int .i64) (.cons (.int .i64) (.int .i64)))))))))))) (.cons (.sl (.st (.cons (.int .i64) (.cons (.int .i64) .bool)))) (.st (.cons (.int .i64) (.cons (.int .i64) (.int .i64)))))))))) (.cons (.st (.cons (.int .i64) (.cons (.sl (.st (.cons (.int .i64) .bool))) (.cons (.sl (.st (.cons (.int .i64) (.int .i64)))) (.sl (.int .i64)))))) (.cons (.int .i64) (.cons (.int .u8) (.cons (.int .u8) (.cons (.int .u8) .nil))))),.bool,false,none,fun _=>True,fun _=>true⟩
def csRoom:List Ent:=[entSmall21,entFew21,entOf21,entBst,entPlR] theorem hcsRoom (f:FuncId):findEnt csRoom f=findEnt [entSmall21,entFew21,entOf21,entBst,entPlR] f:=rfl
set_option maxHeartbeats 8000000 in
theorem conRoom:Con Tryz.prog entRoom:=by
 refine con_isM (C:=csRoom) z6 (by kernel_rfl) (by simp [csRoom,conSmall21,conFew21,conOf21,conBst,conPlR]) fun x _ hf=>?_
 obtain ⟨⟨(N:Int),(A:List DArc),(C:List DCar),(Q:List DReq),(R:List DPair),(S1:Int),(S2:Int),(S3:Int)⟩,⟨(c:Int),(ss:List DStop),(L:List DLeg),(G:List Int)⟩,(r:Int),(y1:Int),(y2:Int),(y3:Int),_⟩:=x
 have hy1:0≤y1∧y1≤255:=hf.2.2.2.1
 have hy2:0≤y2∧y2≤255:=hf.2.2.2.2.1
 have hy3:0≤y3∧y3≤255:=hf.2.2.2.2.2.1
 dsimp only [entRoom,z6,Z1,Z18,Z20,Z22,Z23,Za,Zb,Zc,Zd,Ze,Zf,Zg]
 cases h1:few21 (N,A,C,Q,R,S1,S2,S3) (c,ss,L,G)
 ·simp only [↓hcsRoom,entSmall21,entFew21,entOf21,entBst,entPlR,undef,h1,go_sem,YA,YS,YM,YL,YE,YD,YB,YN,YR,reduceIte,reduceCtorEq,↓reduceIte]
  try simp only [h1,td,reduceCtorEq]
 have h2:ss.length≤6:=few21_len3 h1
 have h3:ss.length≤20:=by omega
 have hCl:C.length≤4:=by
  unfold few21 few20 at h1
  rw [Bool.and_eq_true,Bool.and_eq_true] at h1
  exact (of_decide_eq_true h1.1.2).2.2.1
 by_cases hc0:c < 0
 ·simp only [↓hcsRoom,entSmall21,entFew21,entOf21,entBst,entPlR,undef,h1,hc0,go_sem,YA,YS,YM,YL,YE,YD,YB,YN,YR,reduceIte,reduceCtorEq,↓reduceIte]
  try simp only [h1,hc0,td,reduceCtorEq]
 by_cases hc1:c ≥ (C.length:Int)
 ·have hc1':(C.length:Int)≤c:=hc1
  simp only [↓hcsRoom,entSmall21,entFew21,entOf21,entBst,entPlR,undef,h1,hc0,hc1,hc1',go_sem,YA,YS,YM,YL,YE,YD,YB,YN,YR,reduceIte,reduceCtorEq,↓reduceIte]
  try simp only [h1,hc0,hc1,hc1',td,reduceCtorEq]
 have hc1':¬ (C.length:Int)≤c:=hc1
 obtain ⟨k,rfl⟩:∃ k:Nat,c=k:=⟨c.toNat,by omega⟩
 have hk:k < C.length:=by omega
 have hk1:(k:Int) < (C.length:Int):=by omega
 have hk0:(0:Int)≤(k:Int):=by omega
 obtain ⟨⟨⟨q1,q2,q3,q4⟩,bp,bd,LL,e⟩,hB⟩:∃ X:DPlan × Int × Int × List DPlace × Int,bestF (N,A,C,Q,R,S1,S2,S3) ((k:Int),ss,L,G) r=X:=⟨_,rfl⟩
 have hg:∀ v:DCar,(C.set k v).getD k (0,0,0,0,0,0,0,0,0)=v:=fun v=>by simp [List.getD,hk]
 have f1:IntKind.u8.wrap (y1.tmod 20)=y1 % 20:=by rw [Int.tmod_eq_emod_of_nonneg hy1.1];exact u8_in _ (by omega)
 have f2:IntKind.u8.wrap (y2.tmod 20)=y2 % 20:=by rw [Int.tmod_eq_emod_of_nonneg hy2.1];exact u8_in _ (by omega)
 have f3:IntKind.u8.wrap (y3.tmod 20)=y3 % 20:=by rw [Int.tmod_eq_emod_of_nonneg hy3.1];exact u8_in _ (by omega)
 have g1:y1.tmod 20=y1 % 20:=Int.tmod_eq_emod_of_nonneg hy1.1
 have g2:y2.tmod 20=y2 % 20:=Int.tmod_eq_emod_of_nonneg hy2.1
 have g3:y3.tmod 20=y3 % 20:=Int.tmod_eq_emod_of_nonneg hy3.1
 have f4:IntKind.i64.wrap (y1 % 20)=y1 % 20:=i64_in _ (by omega)
 have f5:IntKind.i64.wrap (y2 % 20)=y2 % 20:=i64_in _ (by omega)
 have f6:IntKind.i64.wrap (y3 % 20)=y3 % 20:=i64_in _ (by omega)
 have f7:(0+C.length) * 72≤140737488355328:=by omega
 have f8:¬ (20:Int)=0:=by decide
 simp only [↓hcsRoom,entSmall21,entFew21,entOf21,entBst,entPlR,undef,h1,h3,hc0,hc1,hc1',hB,hk,hk1,hk0,hg,f1,f2,f3,f4,f5,f6,f7,f8,g1,g2,g3,List.length_set,List.set_set,Int.toNat_natCast,go_sem,YA,YS,YM,YL,YE,YD,YB,YN,YR,reduceIte,reduceCtorEq,↓reduceIte]
 try simp only [h1,h3,hc0,hc1,hc1',hB,hk,hk1,hk0,hg,f1,f2,f3,f4,f5,f6,f7,f8,g1,g2,g3,List.length_set,List.set_set,Int.toNat_natCast,td,reduceCtorEq]
 refine XW_top (XW_frzb 40 45 2 rfl rfl rfl (XW_of ?_))
 dsimp only
 generalize hK:(((C.getD k (0,0,0,0,0,0,0,0,0)).1,(C.getD k (0,0,0,0,0,0,0,0,0)).2.1,(C.getD k (0,0,0,0,0,0,0,0,0)).2.2.1,(C.getD k (0,0,0,0,0,0,0,0,0)).2.2.2.1,IntKind.i64.wrap ((C.getD k (0,0,0,0,0,0,0,0,0)).2.2.2.2.1+y1 % 20),IntKind.i64.wrap ((C.getD k (0,0,0,0,0,0,0,0,0)).2.2.2.2.2.1+y2 % 20),IntKind.i64.wrap ((C.getD k (0,0,0,0,0,0,0,0,0)).2.2.2.2.2.2.1+y3 % 20),(C.getD k (0,0,0,0,0,0,0,0,0)).2.2.2.2.2.2.2):DCar)=K
 by_cases he:e=0∨e=4
 ·have e40:¬ (4:Int)=0:=by decide
  cases hr:rightP (N,A,C.set k K,Q,R,S1,S2,S3)
  ·rcases he with rfl | rfl <;>
   ·simp only [↓hcsRoom,entSmall21,entFew21,entOf21,entBst,entPlR,undef,h3,hr,e40,Int.toNat_natCast,go_sem,YA,YS,YM,YL,YE,YD,YB,YN,YR,reduceIte,reduceCtorEq,↓reduceIte]
    try simp only [h3,hr,e40,Int.toNat_natCast,td,reduceCtorEq]
  ·have hE:=best_err (w:=(N,A,C,Q,R,S1,S2,S3)) (p:=((k:Int),ss,L,G)) (r:=r) (by rw [hB];exact he)
   obtain ⟨o1,o2⟩:=best_ok hE
   rw [hB] at o1 o2
   dsimp only at o1 o2
   have hw:Wide (N,A,C,Q,R,S1,S2,S3) (k:Int) K:=by
    have ho:=err_right hE
    have hcar:=carT ((rightP_iff.1 ho).2.2.1 (C.getD k (0,0,0,0,0,0,0,0,0)) (getD_mem2 hk))
    have hcb:=(rightP_iff.1 ho).2.2.1 (C.getD k (0,0,0,0,0,0,0,0,0)) (getD_mem2 hk)
    unfold carB allIn at hcb
    simp at hcb
    refine ⟨⟨hk0,hk1⟩,?_,?_,ho,hr⟩
    ·rw [← hK];exact ⟨rfl,rfl,rfl⟩
    ·rw [← hK]
     show (C.getD k (0,0,0,0,0,0,0,0,0)).2.2.2.2.1≤IntKind.i64.wrap _∧(C.getD k (0,0,0,0,0,0,0,0,0)).2.2.2.2.2.1≤IntKind.i64.wrap _∧(C.getD k (0,0,0,0,0,0,0,0,0)).2.2.2.2.2.2.1≤IntKind.i64.wrap _
     simp only [List.getD] at hcb ⊢
     rw [i64_in _ (by omega),i64_in _ (by omega),i64_in _ (by omega)]
     omega
   have hE':=hw.err (p:=((k:Int),ss,L,G)) rfl hE
   obtain ⟨p1,p2⟩:=best_ok hE'
   have hlen:(linesI (wideW (N,A,C,Q,R,S1,S2,S3) (k:Int) K) ((k:Int),ss,L,G) r).length=LL.length:=by rw [o1,lines_len,lines_len]
   have hsame:∀ m,m < LL.length→(LL.getD m dPlace).2.2.1≠27→(linesI (wideW (N,A,C,Q,R,S1,S2,S3) (k:Int) K) ((k:Int),ss,L,G) r).getD m dPlace=LL.getD m dPlace:=fun m hm hn=>by
    rw [o1] at hm hn ⊢
    exact hw.lines (p:=((k:Int),ss,L,G)) rfl hm hn
   have hmono:=hw.best (p:=((k:Int),ss,L,G)) (r:=r) rfl
   obtain ⟨⟨⟨u1,u2,u3,u4⟩,vp,vd,L2,e'⟩,hB2⟩:∃ X:DPlan × Int × Int × List DPlace × Int,bestF (N,A,C.set k K,Q,R,S1,S2,S3) ((k:Int),ss,L,G) r=X:=⟨_,rfl⟩
   rw [show bestF (wideW (N,A,C,Q,R,S1,S2,S3) (k:Int) K) ((k:Int),ss,L,G) r=_ from hB2] at p1 p2
   dsimp only at p1 p2
   rw [← p1] at hlen hsame p2 hmono
   rw [← o1] at o2 hmono
   have hlen':(LL.length:Int)=(L2.length:Int):=by omega
   have hlen2:(L2.length:Int)=(LL.length:Int):=by omega
   have hfin:(e=0∧e' = 0)∨(e=4∧e' = 0)∨(e=4∧e' = 4):=by
    rcases o2 with ⟨a,a2⟩ | ⟨a,a2⟩
    ·rcases p2 with ⟨b,b2⟩ | ⟨b,b2⟩
     ·exact .inl ⟨a,b⟩
     ·have:=hmono a2;omega
    ·rcases p2 with ⟨b,b2⟩ | ⟨b,b2⟩
     ·exact .inr (.inl ⟨a,b⟩)
     ·exact .inr (.inr ⟨a,b⟩)
   have hL441:LL.length≤441:=by
    rw [o1,lines_len]
    exact Nat.le_trans (offI_le _ _) (Nat.le_trans (Nat.mul_le_mul (show ss.length+1≤21 by omega) (show ss.length+1≤21 by omega)) (by decide))
   clear o2 p2 hmono hE hE' hw o1 p1
   rcases hfin with ⟨rfl,rfl⟩ | ⟨rfl,rfl⟩ | ⟨rfl,rfl⟩ <;>
   ·simp only [↓hcsRoom,entSmall21,entFew21,entOf21,entBst,entPlR,undef,h3,hr,e40,hB2,hlen2,Int.toNat_natCast,go_sem,YA,YS,YM,YL,YE,YD,YB,YN,YR,reduceIte,reduceCtorEq,↓reduceIte]
    try simp only [h3,hr,e40,hB2,hlen2,Int.toNat_natCast,td,reduceCtorEq]
    refine XW_for 1000 z6_0d [0,1,33,40,126] Nat (fun j=>[(25,.val (.int .i64) (j:Int))]) (fun _=>[]) (fun j=>j≤LL.length) (fun j=>LL.length - j) 0 ?_ ?_ ?_
    ·dsimp only [z6_0d]
     simp only [go_sem,YA,YS,YM,YL,YE,YD,YB,YN,YR,reduceIte,reduceCtorEq,↓reduceIte]
     try trivial
    ·exact Nat.zero_le _
    intro j hj
    have w2:j < LL.length→IntKind.i64.wrap ((j:Int)+1)=((j+1:Nat):Int):=fun h=>i64_in _ (by omega)
    have hs:=hsame j
    dsimp only [z6_0,z6_0d,Z1,Z9,Za,Zc,Zf,Zh]
    by_cases hj':j < LL.length
    ·have w2':=w2 hj'
     by_cases h27:(LL.getD j (0,0,0,0)).2.2.1=27
     ·simp only [↓hcsRoom,entSmall21,entFew21,entOf21,entBst,entPlR,undef,hj',hlen2,w2',h27,Int.toNat_natCast,go_sem,YA,YS,YM,YL,YE,YD,YB,YN,YR,reduceIte,reduceCtorEq,↓reduceIte]
      try simp only [hj',hlen2,w2',h27,Int.toNat_natCast,td,reduceCtorEq]
      exact ⟨j+1,by omega,hj',rfl⟩
     ·have hs2:=hs hj' h27
      have hjl:j < L2.length:=by omega
      simp only [↓hcsRoom,entSmall21,entFew21,entOf21,entBst,entPlR,undef,hj',hjl,hlen2,w2',h27,hs2,Int.toNat_natCast,go_sem,YA,YS,YM,YL,YE,YD,YB,YN,YR,reduceIte,reduceCtorEq,↓reduceIte]
      try simp only [hj',hjl,hlen2,w2',h27,hs2,Int.toNat_natCast,td,reduceCtorEq]
      exact ⟨j+1,by omega,hj',rfl⟩
    ·simp only [↓hcsRoom,entSmall21,entFew21,entOf21,entBst,entPlR,undef,hj',go_sem,YA,YS,YM,YL,YE,YD,YB,YN,YR,reduceIte,reduceCtorEq,↓reduceIte]
     try simp only [hj',td,reduceCtorEq]
 ·have e0:¬ e=0:=by omega
  have e4:¬ e=4:=by omega
  simp only [↓hcsRoom,entSmall21,entFew21,entOf21,entBst,entPlR,undef,h3,e0,e4,Int.toNat_natCast,go_sem,YA,YS,YM,YL,YE,YD,YB,YN,YR,reduceIte,reduceCtorEq,↓reduceIte]
  try simp only [h3,e0,e4,Int.toNat_natCast,td,reduceCtorEq]
end T
end Go.Proofs.YtjlofnjlhgbmoaaGreat
end
