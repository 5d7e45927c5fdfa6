/- Parts of the proof of the law; no condition. -/
import Derived.Test.YtpocfbfmjippnaaGreatF40
import Derived.Test.YtpocfbfmjippnaaGreatF41
import Derived.Test.YtpocfbfmjippnaaGreatF42
import Derived.Test.YtpocfbfmjippnaaGreatF43
set_option linter.all false
section
namespace Go.Proofs.YtpocfbfmjippnaaGreat
open Go.RowKit Go.IntWalk
namespace T
def optAV (t:Ty):Option (List t.den)→AV
 |none=>.cst (.slice none 0 0)
 |some x=>.val (.sl t) x
theorem optAV_none (t:Ty):optAV t none= .cst (.slice none 0 0):=rfl
theorem optAV_some (t:Ty) (x:List t.den):optAV t (some x)= .val (.sl t) x:=rfl
theorem optAV_locs (t:Ty) (o:Option (List t.den)):(optAV t o).locs=[]:=by cases o<;>simp[optAV,AV.locs]
theorem optAV_ren (t:Ty) (o:Option (List t.den)) (y:AV):ren1 (optAV t o) y=[]:=by cases o<;>simp[optAV,ren1]
theorem optAV_le (ρ:List (Nat×Nat)) (hp:Hp) (t:Ty) (o:Option (List t.den)):avle ρ hp (optAV t o) (optAV t o)=True:=by cases o<;>simp[optAV,avle,rd,rd1,disj,cast?_self]
def toO:Option (List Int×List DPlan×Int)→Option (List Int)
 |none=>none
 |some x=>some x.1
def plO:Option (List Int×List DPlan×Int)→Option (List DPlan)
 |none=>none
 |some x=>some x.2.1
def enO:Option (List Int×List DPlan×Int)→Int
 |none=>0
 |some x=>x.2.2
theorem toO_none:toO none=none:=rfl
theorem plO_none:plO none=none:=rfl
theorem enO_none:enO none=0:=rfl
theorem toO_some (x:List Int×List DPlan×Int):toO (some x)=some x.1:=rfl
theorem plO_some (x:List Int×List DPlan×Int):plO (some x)=some x.2.1:=rfl
theorem enO_some (x:List Int×List DPlan×Int):enO (some x)=x.2.2:=rfl
theorem optI_none:optAV (.int .i64) (none:Option (List Int))= .cst (.slice none 0 0):=rfl
theorem optI_some (x:List Int):optAV (.int .i64) (some x:Option (List Int))= .val (.sl (.int .i64)) x:=rfl
theorem optP_none:optAV (.st (.cons (.int .i64) (.cons (.sl (.st (.cons (.int .i64) .bool))) (.cons (.sl (.st (.cons (.int .i64) (.int .i64)))) (.sl (.int .i64)))))) (none:Option (List DPlan))= .cst (.slice none 0 0):=rfl
theorem optP_some (x:List DPlan):optAV (.st (.cons (.int .i64) (.cons (.sl (.st (.cons (.int .i64) .bool))) (.cons (.sl (.st (.cons (.int .i64) (.int .i64)))) (.sl (.int .i64)))))) (some x:Option (List DPlan))= .val (.sl (.st (.cons (.int .i64) (.cons (.sl (.st (.cons (.int .i64) .bool))) (.cons (.sl (.st (.cons (.int .i64) (.int .i64)))) (.sl (.int .i64))))))) x:=rfl
theorem leafR_none (to:List Int) (ps:List DPlan) (n:Int):leafR to ps n none=some (to,ps,n):=rfl
theorem leafR_yes {to:List Int} {ps:List DPlan} {n:Int} {x:List Int×List DPlan×Int} (h:lessP to x.1<0∨lessP to x.1=0∧n<x.2.2):leafR to ps n (some x)=some (to,ps,n):=by
 obtain ⟨h1,h2⟩:=less_sign to x.1;show (if _ then _ else _)=_;exact if_pos (h.imp h1.1 fun z=>⟨h2.1 z.1,z.2⟩)
theorem leafR_no {to:List Int} {ps:List DPlan} {n:Int} {x:List Int×List DPlan×Int} (h1:¬lessP to x.1<0) (h2:¬(lessP to x.1=0∧n<x.2.2)):leafR to ps n (some x)=some x:=by
 obtain ⟨g1,g2⟩:=less_sign to x.1;show (if _ then _ else _)=_;exact if_neg fun z=>z.elim (fun z=>h1 (g1.2 z)) fun z=>h2 ⟨g2.2 z.1,z.2⟩
theorem set_lens {ps:List DPlan} {X:DPlan} {k c:Nat} (h:∀p∈ps,p.2.1.length≤c) (hX:X.2.1.length≤c+2):∀p∈ps.set k X,p.2.1.length≤c+2:=fun p hp=>by
 rcases List.mem_or_eq_of_mem_set hp with hp|rfl
 ·have:=h p hp;omega
 ·exact hX
def entBsX:Ent:=⟨9,.cons Z23 (.cons Z25 (.cons Z1 (.cons Z9 .nil))),.cons Z25 (.cons Z9 (.cons Z24 (.cons Z1 .nil))),true,none,fun x=>((List.length (α:=DPlan) x.2.1≤1000∧List.length (α:=Int) x.2.2.2.1≤1000)∧(List.length (α:=Int) x.2.2.2.1≤2∨4<List.length (α:=Int) x.2.2.2.1))∧∀p∈(x.2.1:List DPlan),p.2.1.length≤16,fun x=>((bestR x.1 x.2.1 x.2.2.1 x.2.2.2.1).1,(bestR x.1 x.2.1 x.2.2.1 x.2.2.2.1).2.1,(bestR x.1 x.2.1 x.2.2.1 x.2.2.2.1).2.2.1,(bestR x.1 x.2.1 x.2.2.1 x.2.2.2.1).2.2.2,())⟩
def csBsX:List Ent:=[entRgt,entHlp,entEnd,entLsP,entCiF,entCpF,entBst,entPow,entCop,entCiD,entCpD] theorem hcsBsX (f:FuncId):findEnt csBsX f=findEnt [entRgt,entHlp,entEnd,entLsP,entCiF,entCpF,entBst,entPow,entCop,entCiD,entCpD] f:=rfl
theorem hdBsX (f:FuncId):findEnt (datC csBsX) f=findEnt [entRgt,entHlp,entEnd,entLsP,entBst,entPow,entCop,entCiD,entCpD] f:=rfl
theorem XW_leq {P:Program} {C:List Ent} {n:Nat} {c:XC} {Q:XQ} {st st':AS} (hx:XW P C n c Q st') (h:le' st st'):XW P C n c Q st:=by
 intro code hc hC B M w0 ψ a w s ro hR;obtain ⟨ψ',s'⟩:=le_of h B M w0 ψ a w s;exact hx code hc hC B M w0 ψ' a w s' ro hR
def entEqSt:Ent:=⟨42,.cons Z10 (.cons Z10 .nil),.bool,false,none,fun _=>True,fun x=>decide ((x.1:List DStop)=x.2.1)⟩
def csEqSt:List Ent:=[] theorem hcsEqSt (f:FuncId):findEnt csEqSt f=findEnt [] f:=rfl
theorem conEqSt:Con Tryz.prog entEqSt:=by
 refine con_is (C:=csEqSt) x42 (by kernel_rfl) (by simp[csEqSt]) fun x hx hf=>?_;obtain ⟨(a:List DStop),(b:List DStop),_⟩:=x;have hl:a.length≤9223372036854775807:=hf.1.1;by_cases hab:a.length=b.length
 ·have habi:(a.length:Int)=(b.length:Int):=by omega
  dsimp only[entEqSt,x42,Za,Zb,Zg];simp only[↓hcsEqSt,habi,go_sem];try simp only[habi,td,reduceCtorEq]
  refine XW_for 1000 x42_0d [] Nat (fun j=>[(13,.val Z1 (j:Int))]) (fun _=>[]) (fun j=>j≤a.length∧∀i,i<j→a.getD i dStop=b.getD i dStop) (fun j=>a.length-j) 0 ?_ ?_ ?_
  ·dsimp only[x42_0d];simp only[go_sem];try trivial
  ·exact ⟨Nat.zero_le _,fun i hi=>by omega⟩
  rintro j ⟨hj,hn⟩;by_cases hja:j<a.length
  ·have hjb:j<b.length:=by omega
   have w2:IntKind.i64.wrap ((j:Int)+1)=((j+1:Nat):Int):=i64_in _ (by omega);have hne:a.getD j dStop≠b.getD j dStop→decide (a=b)=false:=fun h=>decide_eq_false fun z=>h (by rw[z]);have hnx:a.getD j dStop=b.getD j dStop→∀i,i<j+1→a.getD i dStop=b.getD i dStop:=fun h i hi=>by
    rcases Nat.lt_or_ge i j with q|q
    ·exact hn i q
    ·rw[show i=j by omega];exact h
   generalize hA:a.getD j dStop=u at hne hnx;generalize hB:b.getD j dStop=v at hne hnx;obtain ⟨u1,u2⟩:=u;obtain ⟨v1,v2⟩:=v;have huv:((u1,u2)=(v1,v2))↔u1=v1∧u2=v2:=Prod.mk.injEq _ _ _ _▸Iff.rfl;dsimp only[x42_0,x42_0d,Z8,Za,Zf,Zg];simp only[↓hcsEqSt,hja,hjb,w2,hA,hB,habi,go_sem];try simp only[hja,hjb,w2,hA,hB,habi,td,reduceCtorEq]
   exact ⟨fun h=>(hne (fun q=>h (huv.1 q).1 (huv.1 q).2)).symm,fun h=>⟨j+1,by omega,⟨by omega,hnx (huv.2 h)⟩,rfl⟩⟩
  ·have hjb:¬j<b.length:=by omega
   have heq:decide (a=b)=true:=decide_eq_true (ext_getD dStop hab fun i hi=>hn i (by omega));dsimp only[x42_0,x42_0d,Z8,Za,Zf,Zg];simp only[↓hcsEqSt,hja,hjb,habi,heq,go_sem];try simp only[hja,hjb,habi,heq,td,reduceCtorEq]
 ·have habi:¬(a.length:Int)=(b.length:Int):=by omega
  have hne:decide (a=b)=false:=decide_eq_false fun z=>hab (by rw[z]);dsimp only[entEqSt,x42,Za,Zb,Zg];simp only[↓hcsEqSt,hab,habi,hne,go_sem];try simp only[hab,habi,hne,td,reduceCtorEq]
def entEqIn:Ent:=⟨44,.cons Z9 (.cons Z9 .nil),.bool,false,none,fun _=>True,fun x=>decide ((x.1:List Int)=x.2.1)⟩
def csEqIn:List Ent:=[] theorem hcsEqIn (f:FuncId):findEnt csEqIn f=findEnt [] f:=rfl
theorem conEqIn:Con Tryz.prog entEqIn:=by
 refine con_is (C:=csEqIn) x44 (by kernel_rfl) (by simp[csEqIn]) fun x hx hf=>?_;obtain ⟨(a:List Int),(b:List Int),_⟩:=x;have hl:a.length≤9223372036854775807:=hf.1.1;by_cases hab:a.length=b.length
 ·have habi:(a.length:Int)=(b.length:Int):=by omega
  dsimp only[entEqIn,x44,Za,Zb,Zg];simp only[↓hcsEqIn,habi,go_sem];try simp only[habi,td,reduceCtorEq]
  refine XW_for 1000 x44_0d [] Nat (fun j=>[(13,.val Z1 (j:Int))]) (fun _=>[]) (fun j=>j≤a.length∧∀i,i<j→a.getD i 0=b.getD i 0) (fun j=>a.length-j) 0 ?_ ?_ ?_
  ·dsimp only[x44_0d];simp only[go_sem];try trivial
  ·exact ⟨Nat.zero_le _,fun i hi=>by omega⟩
  rintro j ⟨hj,hn⟩;by_cases hja:j<a.length
  ·have hjb:j<b.length:=by omega
   have w2:IntKind.i64.wrap ((j:Int)+1)=((j+1:Nat):Int):=i64_in _ (by omega);have hne:a.getD j 0≠b.getD j 0→decide (a=b)=false:=fun h=>decide_eq_false fun z=>h (by rw[z]);have hnx:a.getD j 0=b.getD j 0→∀i,i<j+1→a.getD i 0=b.getD i 0:=fun h i hi=>by
    rcases Nat.lt_or_ge i j with q|q
    ·exact hn i q
    ·rw[show i=j by omega];exact h
   generalize hA:a.getD j 0=u at hne hnx;generalize hB:b.getD j 0=v at hne hnx;dsimp only[x44_0,x44_0d,Z1,Za,Zf,Zg];simp only[↓hcsEqIn,hja,hjb,w2,hA,hB,habi,go_sem];try simp only[hja,hjb,w2,hA,hB,habi,td,reduceCtorEq]
   exact ⟨fun h=>(hne h).symm,fun h=>⟨j+1,by omega,⟨by omega,hnx h⟩,rfl⟩⟩
  ·have hjb:¬j<b.length:=by omega
   have heq:decide (a=b)=true:=decide_eq_true (ext_getD 0 hab fun i hi=>hn i (by omega));dsimp only[x44_0,x44_0d,Z1,Za,Zf,Zg];simp only[↓hcsEqIn,hja,hjb,habi,heq,go_sem];try simp only[hja,hjb,habi,heq,td,reduceCtorEq]
 ·have habi:¬(a.length:Int)=(b.length:Int):=by omega
  have hne:decide (a=b)=false:=decide_eq_false fun z=>hab (by rw[z]);dsimp only[entEqIn,x44,Za,Zb,Zg];simp only[↓hcsEqIn,hab,habi,hne,go_sem];try simp only[hab,habi,hne,td,reduceCtorEq]
set_option pp.deepTerms true
set_option pp.maxSteps 1000000
set_option maxHeartbeats 2000000
def entRsI:Ent:=⟨13,.cons Z9 (.cons Z9 .nil),.bool,false,none,fun _=>True,fun x=>decide ((x.1:List Int)=x.2.1)⟩
def csRsI:List Ent:=[entEqIn] theorem hcsRsI (f:FuncId):findEnt csRsI f=findEnt [entEqIn] f:=rfl
theorem conRsI:Con Tryz.prog entRsI:=by
 refine con_is (C:=csRsI) x13 (by kernel_rfl) (by simp[csRsI,conEqIn]) fun x hx hf=>?_;obtain ⟨(a:List Int),(b:List Int),_⟩:=x;have hl:a.length≤9223372036854775807:=hf.1.1;by_cases hab:a.length=b.length
 ·have habi:(a.length:Int)=(b.length:Int):=by omega
  dsimp only[entRsI,x13,Zb,Zg];simp only[↓hcsRsI,entEqIn,habi,go_sem];try simp only[habi,td,reduceCtorEq]
  refine XW_for 1000 x13_0d [] Nat (fun j=>[(5,.val Z1 (j:Int))]) (fun _=>[]) (fun j=>j≤a.length∧∀i,i<j→a.getD i 0=b.getD i 0) (fun j=>a.length-j) 0 ?_ ?_ ?_
  ·dsimp only[x13_0d];simp only[go_sem];try trivial
  ·exact ⟨Nat.zero_le _,fun i hi=>by omega⟩
  rintro j ⟨hj,hn⟩;by_cases hja:j<a.length
  ·have hjb:j<b.length:=by omega
   have w2:IntKind.i64.wrap ((j:Int)+1)=((j+1:Nat):Int):=i64_in _ (by omega);have hne:a.getD j 0≠b.getD j 0→decide (a=b)=false:=fun h=>decide_eq_false fun z=>h (by rw[z]);have hnx:a.getD j 0=b.getD j 0→∀i,i<j+1→a.getD i 0=b.getD i 0:=fun h i hi=>by
    rcases Nat.lt_or_ge i j with q|q
    ·exact hn i q
    ·rw[show i=j by omega];exact h
   obtain ⟨u,hA⟩:∃u,a.getD j 0=u:=⟨_,rfl⟩;obtain ⟨v,hB⟩:∃v,b.getD j 0=v:=⟨_,rfl⟩;rw[hA,hB] at hne hnx;skip;dsimp only[x13_0,x13_0d,Z1,Za,Zf,Zg];simp only[↓hcsRsI,entEqIn,hja,hjb,w2,hA,hB,habi,go_sem];try simp only[hja,hjb,w2,hA,hB,habi,td,reduceCtorEq]
   exact ⟨fun h=>(hne h).symm,fun h=>⟨j+1,by omega,⟨by omega,hnx h⟩,rfl⟩⟩
  ·have hjb:¬j<b.length:=by omega
   have heq:decide (a=b)=true:=decide_eq_true (ext_getD 0 hab fun i hi=>hn i (by omega));dsimp only[x13_0,x13_0d,Z1,Za,Zf,Zg];simp only[↓hcsRsI,entEqIn,hja,hjb,heq,habi,go_sem];try simp only[hja,hjb,heq,habi,td,reduceCtorEq]
   try trivial
 ·have habi:¬(a.length:Int)=(b.length:Int):=by omega
  have hne:decide (a=b)=false:=decide_eq_false fun z=>hab (by rw[z]);dsimp only[entRsI,x13,Zb,Zg];simp only[↓hcsRsI,entEqIn,habi,hne,go_sem];try simp only[habi,hne,td,reduceCtorEq]
  try trivial
end T
end Go.Proofs.YtpocfbfmjippnaaGreat
end
