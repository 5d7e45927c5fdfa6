/- Parts of the proof (put together by a program): definitions, lemmas, and the law; no condition. -/
import Derived.Test.YtjlofnjlhgbmoaaGreatR43
import Derived.Test.YtjlofnjlhgbmoaaGreatR48
import Derived.Test.YtjlofnjlhgbmoaaGreatR6
set_option linter.unusedVariables false
set_option linter.unusedSimpArgs false
open Nat renaming reduceAdd → YA, reduceSub → YS, reduceMul → YM, reduceLT → YL, reduceLeDiff → YE, reduceEqDiff → YD, reduceBEq → YB, reduceBNe → YN
open List renaming reduceReplicate → YR
section
namespace Go.Proofs.YtjlofnjlhgbmoaaGreat
open Go.RowKit Go.IntWalk
namespace T
theorem few21_len3 {w:DWorld} {p:DPlan} (h:few21 w p=true):p.2.1.length≤6:=by
 unfold few21 at h;rw [Bool.and_eq_true] at h;exact (of_decide_eq_true h.2).2
theorem wrap_ne {x b:Int} (h:b≠0) (h1:-128≤b) (h2:b≤127):IntKind.i64.wrap (x+b)≠x:=fun e=>by
 rw [IntKind.wrap_i64] at e
 omega
theorem set_ne {LL:List DPlace} {k:Nat} {v:DPlace} (hk:k < LL.length) (h:LL.getD k dPlace≠v):¬ LL=LL.set k v:=fun e=>h (by
 have h2:(LL.set k v).getD k dPlace=v:=by simp [List.getD,hk]
 rw [← e] at h2;exact h2)
theorem best_lines {w:DWorld} {p:DPlan} {r:Int} (h:(bestF w p r).2.2.2.2=0∨(bestF w p r).2.2.2.2=4):(bestF w p r).2.2.2.1=linesI w p r:=by
 unfold bestF at h ⊢
 by_cases hE:errI w p r=0
 ·rw [if_neg (Decidable.not_not.2 hE)]
  split <;> rfl
 ·rw [if_pos hE] at h
  dsimp only at h
  exfalso
  have:errI w p r=1:=by
   unfold errI at hE ⊢
   split
   ·rfl
   ·rename_i z;rw [if_neg z] at hE;exact absurd rfl hE
  omega
def entChecks:Ent:=⟨7,.cons (.st (.cons (.int .i64) (.cons (.sl (.st (.cons (.int .i64) (.cons (.int .i64) (.cons (.sl (.int .i64)) (.sl (.int .i64))))))) (.cons (.sl (.st (.cons (.int .i64) (.cons (.int .i64) (.cons (.int .i64) (.cons (.int .i64) (.cons (.int .i64) (.cons (.int .i64) (.cons (.int .i64) (.cons (.int .i64) (.int .i64))))))))))) (.cons (.sl (.st (.cons (.int .i64) (.cons (.int .i64) (.cons (.int .i64) (.cons (.int .i64) (.cons (.int .i64) (.cons (.int .i64) (.cons (.int .i64) (.cons (.int .i64) (.cons (.int .i64) (.int .i64)))))))))))) (.cons (.sl (.st (.cons (.int .i64) (.cons (.int .i64) .bool)))) (.st (.cons (.int .i64) (.cons (.int .i64) (.int .i64)))))))))) (.cons (.st (.cons (.int .i64) (.cons (.sl (.st (.cons (.int .i64) .bool))) (.cons (.sl (.st (.cons (.int .i64) (.int .i64)))) (.sl (.int .i64)))))) (.cons (.int .i64) (.cons (.int .u8) (.cons (.int .i8) .nil)))),.bool,false,none,fun _=>True,fun _=>true⟩
def csChecks:List Ent:=[entSmall21,entFew21,entOf21,entBst,entICk] theorem hcsChecks (f:FuncId):findEnt csChecks f=findEnt [entSmall21,entFew21,entOf21,entBst,entICk] f:=rfl
set_option maxHeartbeats 8000000 in
theorem conChecks:Con Tryz.prog entChecks:=by
 refine con_is (C:=csChecks) x7 (by kernel_rfl) (by simp [csChecks,conSmall21,conFew21,conOf21,conBst,conICk]) fun x _ hf=>?_
 obtain ⟨⟨(N:Int),(A:List DArc),(C:List DCar),(Q:List DReq),(R:List DPair),(S1:Int),(S2:Int),(S3:Int)⟩,⟨(c:Int),(ss:List DStop),(L:List DLeg),(G:List Int)⟩,(r:Int),(at':Int),(b:Int),_⟩:=x
 have hat:0≤at'∧at' ≤ 255:=hf.2.2.2.1
 have hb:-128≤b∧b≤127:=hf.2.2.2.2.1
 dsimp only [entChecks,x7,Z1,Z20,Z23,Z9,Za,Zb,Zc,Zd,Ze,Zf,Zg,Zh,Zi]
 cases h1:few21 (N,A,C,Q,R,S1,S2,S3) (c,ss,L,G)
 ·simp only [↓hcsChecks,entSmall21,entFew21,entOf21,entBst,entICk,undef,h1,go_sem,YA,YS,YM,YL,YE,YD,YB,YN,YR,reduceIte,reduceCtorEq,↓reduceIte]
  try simp only [h1,td,reduceCtorEq]
 have h2:ss.length≤6:=few21_len3 h1
 have h3:ss.length≤20:=by omega
 by_cases hb0:b=0
 ·simp only [↓hcsChecks,entSmall21,entFew21,entOf21,entBst,entICk,undef,h1,hb0,go_sem,YA,YS,YM,YL,YE,YD,YB,YN,YR,reduceIte,reduceCtorEq,↓reduceIte]
  try simp only [h1,hb0,td,reduceCtorEq]
 obtain ⟨⟨⟨q1,q2,q3,q4⟩,bp,bd,LL,e⟩,hB⟩:∃ X:DPlan × Int × Int × List DPlace × Int,bestF (N,A,C,Q,R,S1,S2,S3) (c,ss,L,G) r=X:=⟨_,rfl⟩
 have hcd:∀ g l,checkI (N,A,C,Q,R,S1,S2,S3) (c,ss,L,G) r g l=if e≠0∧e≠4 then e else if (q1,q2,q3,q4)=g∧LL=l then 0 else 23:=fun g l=>by
  unfold checkI;rw [hB]
 by_cases he:e=0∨e=4
 ·have hLn:0 < LL.length∧LL.length≤441:=by
   have hl:=best_lines (w:=(N,A,C,Q,R,S1,S2,S3)) (p:=(c,ss,L,G)) (r:=r) (by rw [hB];exact he)
   rw [hB] at hl
   have hlen:=lines_len (N,A,C,Q,R,S1,S2,S3) (c,ss,L,G) r
   rw [← hl] at hlen
   dsimp only at hlen
   have hsm:=offI_small ss.length (by omega)
   have u1:1 * 2≤(ss.length+1) * (ss.length+2):=Nat.mul_le_mul (by omega) (by omega)
   have u2:(ss.length+1) * (ss.length+2)≤7 * 8:=Nat.mul_le_mul (by omega) (by omega)
   omega
  have hcd2:∀ g l,checkI (N,A,C,Q,R,S1,S2,S3) (c,ss,L,G) r g l=if (q1,q2,q3,q4)=g∧LL=l then 0 else 23:=fun g l=>by
   rw [hcd,if_neg (by omega)]
  have c0:checkI (N,A,C,Q,R,S1,S2,S3) (c,ss,L,G) r (q1,q2,q3,q4) LL=0:=by rw [hcd2,if_pos ⟨rfl,rfl⟩]
  obtain ⟨k,hk⟩:∃ k:Nat,at' % (LL.length:Int)=k:=⟨(at' % (LL.length:Int)).toNat,by have:=Int.emod_nonneg at' (b:=(LL.length:Int)) (by omega);omega⟩
  have hkl:k < LL.length:=by have:=Int.emod_lt_of_pos at' (b:=(LL.length:Int)) (by omega);omega
  have f1:IntKind.i64.wrap at' = at':=i64_in _ (by omega)
  have f2:at'.tmod (LL.length:Int)=(k:Int):=by rw [Int.tmod_eq_emod_of_nonneg (by omega),hk]
  have f3:¬ (LL.length:Int)=0:=by omega
  have f4:IntKind.i64.wrap (k:Int)=(k:Int):=i64_in _ (by omega)
  have f5:IntKind.i64.wrap b=b:=i64_in _ (by omega)
  have f6:(k:Int) < (LL.length:Int):=by omega
  have f7:(k:Int)≤(LL.length:Int):=by omega
  have f8:k≤LL.length:=by omega
  have c1:checkI (N,A,C,Q,R,S1,S2,S3) (c,ss,L,G) r (q1,q2,q3,q4) (LL.set k ((LL.getD k (0,0,0,0)).1,(LL.getD k (0,0,0,0)).2.1,(LL.getD k (0,0,0,0)).2.2.1,IntKind.i64.wrap ((LL.getD k (0,0,0,0)).2.2.2+b)))=23:=by
   rw [hcd2,if_neg (fun z=>set_ne hkl (fun y=>wrap_ne hb0 hb.1 hb.2 (congrArg (fun x:DPlace=>x.2.2.2) y).symm) z.2)]
  have c2:checkI (N,A,C,Q,R,S1,S2,S3) (c,ss,L,G) r (q1,q2,q3,q4) (LL.set k ((LL.getD k (0,0,0,0)).1,(LL.getD k (0,0,0,0)).2.1,IntKind.i64.wrap ((LL.getD k (0,0,0,0)).2.2.1+b),(LL.getD k (0,0,0,0)).2.2.2))=23:=by
   rw [hcd2,if_neg (fun z=>set_ne hkl (fun y=>wrap_ne hb0 hb.1 hb.2 (congrArg (fun x:DPlace=>x.2.2.1) y).symm) z.2)]
  have c3:checkI (N,A,C,Q,R,S1,S2,S3) (c,ss,L,G) r (q1,q2,q3,q4) (LL.take k)=23:=by
   rw [hcd2,if_neg (fun z=>by have:=congrArg List.length z.2;rw [List.length_take] at this;omega)]
  have c4:checkI (N,A,C,Q,R,S1,S2,S3) (c,ss,L,G) r (IntKind.i64.wrap (q1+b),q2,q3,q4) LL=23:=by
   rw [hcd2,if_neg (fun z=>wrap_ne hb0 hb.1 hb.2 (congrArg (fun x:DPlan=>x.1) z.1).symm)]
  have z0:(0:Int)≤0:=Int.le_refl _
  rcases he with he | he <;>
  ·subst he
   simp only [↓hcsChecks,entSmall21,entFew21,entOf21,entBst,entICk,undef,h1,h3,hb0,hB,c0,hkl,f1,f2,f3,f4,f5,f6,f7,f8,c1,c2,c3,c4,z0,Int.toNat_natCast,go_sem,YA,YS,YM,YL,YE,YD,YB,YN,YR,reduceIte,reduceCtorEq,↓reduceIte]
   try simp only [h1,h3,hb0,hB,c0,hkl,f1,f2,f3,f4,f5,f6,f7,f8,c1,c2,c3,c4,z0,Int.toNat_natCast,td,reduceCtorEq]
   omega
 ·have e0:¬ e=0:=by omega
  have e4:¬ e=4:=by omega
  have hc:checkI (N,A,C,Q,R,S1,S2,S3) (c,ss,L,G) r (q1,q2,q3,q4) LL=e:=by rw [hcd,if_pos ⟨e0,e4⟩]
  simp only [↓hcsChecks,entSmall21,entFew21,entOf21,entBst,entICk,undef,h1,h3,hb0,hB,hc,e0,e4,go_sem,YA,YS,YM,YL,YE,YD,YB,YN,YR,reduceIte,reduceCtorEq,↓reduceIte]
  try simp only [h1,h3,hb0,hB,hc,e0,e4,td,reduceCtorEq]
end T
end Go.Proofs.YtjlofnjlhgbmoaaGreat
end
