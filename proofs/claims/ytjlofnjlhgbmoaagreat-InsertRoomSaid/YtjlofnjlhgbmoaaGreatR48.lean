/- Parts of the proof (put together by a program): definitions, lemmas, and the law; no condition. -/
import Derived.Test.YtjlofnjlhgbmoaaGreatR46
import Derived.Test.YtjlofnjlhgbmoaaGreatR47
import Derived.Test.YtjlofnjlhgbmoaaGreatR6
set_option linter.unusedVariables false
set_option linter.unusedSimpArgs false
open Nat renaming reduceAdd → YA, reduceSub → YS, reduceMul → YM, reduceLT → YL, reduceLeDiff → YE, reduceEqDiff → YD, reduceBEq → YB, reduceBNe → YN
open List renaming reduceReplicate → YR
section
namespace Go.Proofs.YtjlofnjlhgbmoaaGreat
open Go.RowKit Go.IntWalk
namespace T
theorem rep_snoc20 (k:Nat) (x:Int):List.replicate k x ++ [x]=List.replicate (k+1) x:=by rw [List.replicate_succ']
def entArc21:Ent:=⟨63,.cons (.int .i64) (.cons (.int .i64) .nil),(.st (.cons (.int .i64) (.cons (.int .i64) (.cons (.sl (.int .i64)) (.sl (.int .i64)))))),false,none,fun _=>True,fun x=>arcF20 x.1 x.2.1 10 20⟩
def csArc21:List Ent:=[] theorem hcsArc21 (f:FuncId):findEnt csArc21 f=findEnt [] f:=rfl
theorem conArc21:Con Tryz.prog entArc21:=by
 refine con_is (C:=csArc21) x63 (by kernel_rfl) (by simp [csArc21]) fun x _ hf=>?_
 obtain ⟨(f:Int),(t:Int),_⟩:=x
 dsimp only [entArc21,x63,Z1,Z13,Zb,Zg];simp only [↓hcsArc21,go_sem,YA,YS,YM,YL,YE,YD,YB,YN,YR,reduceIte,reduceCtorEq,↓reduceIte]
 refine XW_first 1000 x63_0d [0,4] Nat (fun k=>[(6,.val (.int .i64) (k:Int))]) (fun k=>[(4,.box 126 [.val (.int .i64) f,.val (.int .i64) t,.own 100,.own 101]),(100,.row 3 (.int .i64) (List.replicate k 10)),(101,.row 3 (.int .i64) (List.replicate k 20))])
  (fun k=>1≤k∧k≤24) (fun k=>24 - k) 24 ?_ ?_
 ·dsimp only [x63_0,x63_0d,Z1,Z11,Za,Zb,Zc];simp only [↓hcsArc21,go_sem,YA,YS,YM,YL,YE,YD,YB,YN,YR,reduceIte,reduceCtorEq,↓reduceIte]
  try simp only [td,reduceCtorEq]
  exact ⟨fun _=>⟨1,by omega,⟨by omega,by omega⟩,i64_in _ (by omega),rfl,rfl⟩,fun h=>by omega⟩
 ·intro k hk
  dsimp only [x63_0,x63_0d,Z1,Z11,Za,Zb,Zc];simp only [↓hcsArc21,go_sem,YA,YS,YM,YL,YE,YD,YB,YN,YR,reduceIte,reduceCtorEq,↓reduceIte]
  try simp only [td,reduceCtorEq]
  refine ⟨fun h=>⟨?_,?_,k+1,by omega,⟨by omega,by omega⟩,i64_in _ (by omega),rep_snoc20 _ _,rep_snoc20 _ _⟩,fun h=>?_⟩
  ·rw [List.length_replicate];omega
  ·rw [List.length_replicate];omega
  ·obtain rfl:k=24:=by omega
   rfl
def entTown21:Ent:=⟨27,.cons (.int .i64) .nil,(.st (.cons (.int .i64) (.cons (.sl (.st (.cons (.int .i64) (.cons (.int .i64) (.cons (.sl (.int .i64)) (.sl (.int .i64))))))) (.cons (.sl (.st (.cons (.int .i64) (.cons (.int .i64) (.cons (.int .i64) (.cons (.int .i64) (.cons (.int .i64) (.cons (.int .i64) (.cons (.int .i64) (.cons (.int .i64) (.int .i64))))))))))) (.cons (.sl (.st (.cons (.int .i64) (.cons (.int .i64) (.cons (.int .i64) (.cons (.int .i64) (.cons (.int .i64) (.cons (.int .i64) (.cons (.int .i64) (.cons (.int .i64) (.cons (.int .i64) (.int .i64)))))))))))) (.cons (.sl (.st (.cons (.int .i64) (.cons (.int .i64) .bool)))) (.st (.cons (.int .i64) (.cons (.int .i64) (.int .i64)))))))))),false,none,fun _=>True,fun x=>town21 x.1⟩
def csTown21:List Ent:=[entArc21] theorem hcsTown21 (f:FuncId):findEnt csTown21 f=findEnt [entArc21] f:=rfl
theorem conTown21:Con Tryz.prog entTown21:=by
 refine con_is (C:=csTown21) x27 (by kernel_rfl) (by simp [csTown21,conArc21]) fun x _ hf=>?_
 obtain ⟨(s:Int),_⟩:=x
 dsimp only [entTown21,x27,Z1,Z13,Z17,Z18,Z22,Z23,Z5,Z6,Z7];simp only [↓hcsTown21,entArc21,undef,go_sem,YA,YS,YM,YL,YE,YD,YB,YN,YR,reduceIte,reduceCtorEq,↓reduceIte]
 try simp only [td,reduceCtorEq]
 all_goals rfl
def entOf21:Ent:=⟨12,.cons (.st (.cons (.int .i64) (.cons (.sl (.st (.cons (.int .i64) (.cons (.int .i64) (.cons (.sl (.int .i64)) (.sl (.int .i64))))))) (.cons (.sl (.st (.cons (.int .i64) (.cons (.int .i64) (.cons (.int .i64) (.cons (.int .i64) (.cons (.int .i64) (.cons (.int .i64) (.cons (.int .i64) (.cons (.int .i64) (.int .i64))))))))))) (.cons (.sl (.st (.cons (.int .i64) (.cons (.int .i64) (.cons (.int .i64) (.cons (.int .i64) (.cons (.int .i64) (.cons (.int .i64) (.cons (.int .i64) (.cons (.int .i64) (.cons (.int .i64) (.int .i64)))))))))))) (.cons (.sl (.st (.cons (.int .i64) (.cons (.int .i64) .bool)))) (.st (.cons (.int .i64) (.cons (.int .i64) (.int .i64)))))))))) .nil,(.st (.cons (.int .i64) (.cons (.sl (.st (.cons (.int .i64) (.cons (.int .i64) (.cons (.sl (.int .i64)) (.sl (.int .i64))))))) (.cons (.sl (.st (.cons (.int .i64) (.cons (.int .i64) (.cons (.int .i64) (.cons (.int .i64) (.cons (.int .i64) (.cons (.int .i64) (.cons (.int .i64) (.cons (.int .i64) (.int .i64))))))))))) (.cons (.sl (.st (.cons (.int .i64) (.cons (.int .i64) (.cons (.int .i64) (.cons (.int .i64) (.cons (.int .i64) (.cons (.int .i64) (.cons (.int .i64) (.cons (.int .i64) (.cons (.int .i64) (.int .i64)))))))))))) (.cons (.sl (.st (.cons (.int .i64) (.cons (.int .i64) .bool)))) (.st (.cons (.int .i64) (.cons (.int .i64) (.int .i64)))))))))),false,none,fun _=>True,fun x=>x.1⟩
def csOf21:List Ent:=[] theorem hcsOf21 (f:FuncId):findEnt csOf21 f=findEnt [] f:=rfl
theorem conOf21:Con Tryz.prog entOf21:=by
 refine con_is (C:=csOf21) x12 (by kernel_rfl) (by simp [csOf21]) fun x hx hf=>?_
 obtain ⟨⟨(N:Int),(A:List DArc),(C:List DCar),(Q:List DReq),(P:List DPair),(S1:Int),(S2:Int),(S3:Int)⟩,_⟩:=x
 dsimp only [entOf21,x12,Z1,Z17,Z21,Z22,Z23,Z5,Z7,Zb,Zd];simp only [↓hcsOf21,undef,go_sem,YA,YS,YM,YL,YE,YD,YB,YN,YR,reduceIte,reduceCtorEq,↓reduceIte]
 try simp only [td,reduceCtorEq]
def entSmall21:Ent:=⟨8,.nil,.bool,false,none,fun _=>True,fun _=>true⟩
abbrev DBest:=DPlan × Int × Int × List DPlace × Int
def iTo (so:Int→DWorld):Ent:={ entTown21 with F:=fun x=>so x.1 }
def iMk (mk:DWorld→Int→List DStop→DPlan × Int):Ent:={ entMk with F:=fun x=>((mk x.1 x.2.1 x.2.2.1).1,(mk x.1 x.2.1 x.2.2.1).2,()) }
def iBs (bs:DWorld→DPlan→Int→DBest):Ent:={ entBst with F:=fun x=>((bs x.1 x.2.1 x.2.2.1).1,(bs x.1 x.2.1 x.2.2.1).2.1,(bs x.1 x.2.1 x.2.2.1).2.2.1,(bs x.1 x.2.1 x.2.2.1).2.2.2.1,(bs x.1 x.2.1 x.2.2.1).2.2.2.2,()) }
def iCk (ck:DWorld→DPlan→Int→DPlan→List DPlace→Int):Ent:={ entICk with F:=fun x=>ck x.1 x.2.1 x.2.2.1 x.2.2.2.1 x.2.2.2.2.1 }
def csSmall21 (so:Int→DWorld) (mk:DWorld→Int→List DStop→DPlan × Int) (bs:DWorld→DPlan→Int→DBest) (ck:DWorld→DPlan→Int→DPlan→List DPlace→Int):List Ent:=[iTo so,iMk mk,iBs bs,iCk ck]
theorem hcsSmall21 (so:Int→DWorld) (mk:DWorld→Int→List DStop→DPlan × Int) (bs:DWorld→DPlan→Int→DBest) (ck:DWorld→DPlan→Int→DPlan→List DPlace→Int) (f:FuncId):findEnt (csSmall21 so mk bs ck) f=findEnt [iTo so,iMk mk,iBs bs,iCk ck] f:=rfl
theorem ismall_gen {so:Int→DWorld} {mk:DWorld→Int→List DStop→DPlan × Int} {bs:DWorld→DPlan→Int→DBest} {ck:DWorld→DPlan→Int→DPlan→List DPlace→Int}
  (c1:Con Tryz.prog (iTo so)) (c2:Con Tryz.prog (iMk mk)) (c3:Con Tryz.prog (iBs bs)) (c4:Con Tryz.prog (iCk ck))
  (a1:mk (so 1) 0 []=((0,[],[],[0]),0)) (a2:bs (so 1) (0,[],[],[0]) 0=((0,[(0,true),(0,false)],[(0,0),(10,20)],[0,0,0]),0,0,[(0,0,0,20)],0)) (a3:bs (so 0) (0,[],[],[0]) 0=((0,[],[],[]),0,0,[(0,0,27,0)],4))
  (a4:ck (so 1) (0,[],[],[0]) 0 (0,[(0,true),(0,false)],[(0,0),(10,20)],[0,0,0]) [(0,0,0,20)]=0) (a5:ck (so 0) (0,[],[],[0]) 0 (0,[],[],[]) [(0,0,27,0)]=0):Con Tryz.prog entSmall21:=by
 refine con_is (C:=csSmall21 so mk bs ck) x8 (by kernel_rfl) (by simp [csSmall21,c1,c2,c3,c4]) fun x _ hf=>?_
 dsimp only [entSmall21,x8,Z1,Z19,Z20,Z8,Z9,Za,Zb,Zc,Ze,Zf,Zg,Zh];simp only [↓hcsSmall21,iTo,iMk,iBs,iCk,entTown21,entMk,entBst,entICk,undef,a1,a2,a3,a4,a5,go_sem,YA,YS,YM,YL,YE,YD,YB,YN,YR,reduceIte,reduceCtorEq,↓reduceIte]
 try simp only [a1,a2,a3,a4,a5,td,reduceCtorEq]
 decide
theorem conSmall21:Con Tryz.prog entSmall21:=ismall_gen (so:=town21) (mk:=makeF) (bs:=bestF) (ck:=checkI) conTown21 conMk conBst conICk m21 be21 bz21 ck21 cz21
end T
end Go.Proofs.YtjlofnjlhgbmoaaGreat
end
