/- Parts of the proof (put together by a program): definitions, lemmas, and the law; no condition. -/
import Derived.Test.YtjlofnjlhgbmoaaGreatR21
import Derived.Test.YtjlofnjlhgbmoaaGreatR28
import Derived.Test.YtjlofnjlhgbmoaaGreatR29
import Derived.Test.YtjlofnjlhgbmoaaGreatR32
import Derived.Test.YtjlofnjlhgbmoaaGreatR33
import Derived.Test.YtjlofnjlhgbmoaaGreatR6
set_option linter.unusedVariables false
set_option linter.unusedSimpArgs false
open Nat renaming reduceAdd → YA, reduceSub → YS, reduceMul → YM, reduceLT → YL, reduceLeDiff → YE, reduceEqDiff → YD, reduceBEq → YB, reduceBNe → YN
open List renaming reduceReplicate → YR
section
namespace Go.Proofs.YtjlofnjlhgbmoaaGreat
open Go.RowKit Go.IntWalk
namespace T
def begF (w:DWorld) (c:Int) (ss:List DStop):DChain × Int :=
 if asksF w c ss=false then (noChain,1) else if (fitsF (carLoad (carAt w c)) ss w.2.2.2.1).2≠0 then (noChain,27) else if togF w.2.2.2.2.1 ss w.2.2.2.1=false then (noChain,30) else chainF w c ss
def entBeg:Ent:=⟨42,.cons (.st (.cons (.int .i64) (.cons (.sl (.st (.cons (.int .i64) (.cons (.int .i64) (.cons (.sl (.int .i64)) (.sl (.int .i64))))))) (.cons (.sl (.st (.cons (.int .i64) (.cons (.int .i64) (.cons (.int .i64) (.cons (.int .i64) (.cons (.int .i64) (.cons (.int .i64) (.cons (.int .i64) (.cons (.int .i64) (.int .i64))))))))))) (.cons (.sl (.st (.cons (.int .i64) (.cons (.int .i64) (.cons (.int .i64) (.cons (.int .i64) (.cons (.int .i64) (.cons (.int .i64) (.cons (.int .i64) (.cons (.int .i64) (.cons (.int .i64) (.int .i64)))))))))))) (.cons (.sl (.st (.cons (.int .i64) (.cons (.int .i64) .bool)))) (.st (.cons (.int .i64) (.cons (.int .i64) (.int .i64)))))))))) (.cons (.int .i64) (.cons (.sl (.st (.cons (.int .i64) .bool))) .nil)),.cons (.st (.cons (.sl (.st (.cons (.int .i64) (.int .i64)))) (.cons (.sl (.st (.cons (.int .i64) (.int .i64)))) (.sl (.st (.cons (.int .i64) (.cons (.int .i64) (.int .i64)))))))) (.cons (.int .i64) .nil),true,none,fun x=>List.length (α:=DStop) x.2.2.1≤24,fun x=>((begF x.1 x.2.1 x.2.2.1).1,(begF x.1 x.2.1 x.2.2.1).2,())⟩
def csBeg:List Ent:=[entAsk,entFits,entTog,entChn] theorem hcsBeg (f:FuncId):findEnt csBeg f=findEnt [entAsk,entFits,entTog,entChn] f:=rfl
theorem conBeg:Con Tryz.prog entBeg:=by
 refine con_is (C:=csBeg) x42 (by kernel_rfl) (by simp [csBeg,conAsk,conFits,conTog,conChn]) fun x hx hf=>?_
 obtain ⟨⟨(N:Int),(A:List DArc),(C:List DCar),(Q:List DReq),(P:List DPair),(S1:Int),(S2:Int),(S3:Int)⟩,(c:Int),(ss:List DStop),_⟩:=x
 replace hx:ss.length≤24:=hx
 cases ha:asksF (N,A,C,Q,P,S1,S2,S3) c ss with
 | false =>
  have hz:begF (N,A,C,Q,P,S1,S2,S3) c ss=(([],[],[]),1):=by unfold begF;rw [if_pos ha];rfl
  dsimp only [entBeg,x42,Z12,Z18,Z21,Z22,Z23,Z7,Za,Zb,Zc,Zd,Zf,Zg,Zi];simp only [↓hcsBeg,entAsk,entFits,entTog,entChn,undef,ha,hz,go_sem,YA,YS,YM,YL,YE,YD,YB,YN,YR,reduceIte,reduceCtorEq,↓reduceIte]
  try simp only [ha,hz,td,reduceCtorEq]
 | true =>
  obtain ⟨hw,hc,hss⟩:=asks_iff.1 ha
  dsimp only at hc hss
  obtain ⟨c,rfl⟩:∃ z:Nat,c=z:=⟨c.toNat,by omega⟩
  have hcl:c < C.length:=by omega
  have hca:carAt (N,A,C,Q,P,S1,S2,S3) (c:Int)=C.getD c (0,0,0,0,0,0,0,0,0):=rfl
  have hz:begF (N,A,C,Q,P,S1,S2,S3) c ss=if (fitsF (carLoad (C.getD c (0,0,0,0,0,0,0,0,0))) ss Q).2≠0 then (noChain,27) else if togF P ss Q=false then (noChain,30) else chainF (N,A,C,Q,P,S1,S2,S3) c ss:=by
   unfold begF
   rw [if_neg (by rw [ha];simp),hca]
  dsimp only [entBeg,x42,Z12,Z18,Z21,Z22,Z23,Z7,Za,Zb,Zc,Zd,Zf,Zg,Zi];simp only [↓hcsBeg,entAsk,entFits,entTog,entChn,undef,ha,hcl,hx,Int.toNat_natCast,go_sem,YA,YS,YM,YL,YE,YD,YB,YN,YR,reduceIte,reduceCtorEq,↓reduceIte]
  try simp only [ha,hcl,hx,Int.toNat_natCast,td,reduceCtorEq]
  refine ⟨fun h=>?_,fun h=>⟨fun h2=>?_,fun h2=>?_⟩⟩
  ·rw [hz,if_pos h];rfl
  ·rw [hz,if_neg (fun q=>q h),if_pos h2];rfl
  ·rw [hz,if_neg (fun q=>q h),if_neg (by rw [h2];simp)]
end T
end Go.Proofs.YtjlofnjlhgbmoaaGreat
end
