/- Parts of the proof of the law; no condition. -/
import Derived.Test.YtpocfbfmjippnaaGreatH38
import Derived.Test.YtpocfbfmjippnaaGreatH39
import Derived.Test.YtpocfbfmjippnaaGreatH40
set_option linter.all false
section
namespace Go.Proofs.YtpocfbfmjippnaaGreat
open Go.RowKit Go.IntWalk
namespace T
def optAV (t:Ty):Option (List t.den)→AV
 |none=>.cst (.slice none 0 0)
 |some x=>.val (.sl t) x
theorem optAV_none (t:Ty):optAV t none= .cst (.slice none 0 0):=rfl
theorem optAV_some (t:Ty) (x:List t.den):optAV t (some x)= .val (.sl t) x:=rfl
theorem optAV_locs (t:Ty) (o:Option (List t.den)):(optAV t o).locs=[]:=by cases o<;>simp[optAV,AV.locs]
theorem optAV_ren (t:Ty) (o:Option (List t.den)) (y:AV):ren1 (optAV t o) y=[]:=by cases o<;>simp[optAV,ren1]
theorem optAV_le (ρ:List (Nat×Nat)) (hp:Hp) (t:Ty) (o:Option (List t.den)):avle ρ hp (optAV t o) (optAV t o)=True:=by cases o<;>simp[optAV,avle,rd,rd1,disj,cast?_self]
def toO:Option (List Int×List DPlan×Int)→Option (List Int)
 |none=>none
 |some x=>some x.1
def plO:Option (List Int×List DPlan×Int)→Option (List DPlan)
 |none=>none
 |some x=>some x.2.1
def enO:Option (List Int×List DPlan×Int)→Int
 |none=>0
 |some x=>x.2.2
theorem toO_none:toO none=none:=rfl
theorem plO_none:plO none=none:=rfl
theorem enO_none:enO none=0:=rfl
theorem toO_some (x:List Int×List DPlan×Int):toO (some x)=some x.1:=rfl
theorem plO_some (x:List Int×List DPlan×Int):plO (some x)=some x.2.1:=rfl
theorem enO_some (x:List Int×List DPlan×Int):enO (some x)=x.2.2:=rfl
theorem optI_none:optAV (.int .i64) (none:Option (List Int))= .cst (.slice none 0 0):=rfl
theorem optI_some (x:List Int):optAV (.int .i64) (some x:Option (List Int))= .val (.sl (.int .i64)) x:=rfl
theorem optP_none:optAV (.st (.cons (.int .i64) (.cons (.sl (.st (.cons (.int .i64) .bool))) (.cons (.sl (.st (.cons (.int .i64) (.int .i64)))) (.sl (.int .i64)))))) (none:Option (List DPlan))= .cst (.slice none 0 0):=rfl
theorem optP_some (x:List DPlan):optAV (.st (.cons (.int .i64) (.cons (.sl (.st (.cons (.int .i64) .bool))) (.cons (.sl (.st (.cons (.int .i64) (.int .i64)))) (.sl (.int .i64)))))) (some x:Option (List DPlan))= .val (.sl (.st (.cons (.int .i64) (.cons (.sl (.st (.cons (.int .i64) .bool))) (.cons (.sl (.st (.cons (.int .i64) (.int .i64)))) (.sl (.int .i64))))))) x:=rfl
theorem oy:(∀t,optAV t none= .cst (.slice none 0 0))∧(∀t (x:List t.den),optAV t (some x)= .val (.sl t) x)∧optAV (.int .i64) (none:Option (List Int))= .cst (.slice none 0 0)∧(∀x:List Int,optAV (.int .i64) (some x:Option (List Int))= .val (.sl (.int .i64)) x)∧optAV (.st (.cons (.int .i64) (.cons (.sl (.st (.cons (.int .i64) .bool))) (.cons (.sl (.st (.cons (.int .i64) (.int .i64)))) (.sl (.int .i64)))))) (none:Option (List DPlan))= .cst (.slice none 0 0)∧(∀x:List DPlan,optAV (.st (.cons (.int .i64) (.cons (.sl (.st (.cons (.int .i64) .bool))) (.cons (.sl (.st (.cons (.int .i64) (.int .i64)))) (.sl (.int .i64)))))) (some x:Option (List DPlan))= .val (.sl (.st (.cons (.int .i64) (.cons (.sl (.st (.cons (.int .i64) .bool))) (.cons (.sl (.st (.cons (.int .i64) (.int .i64)))) (.sl (.int .i64))))))) x)∧(∀t o,(optAV t o).locs=[])∧(∀t o y,ren1 (optAV t o) y=[])∧
  (∀ρ hp t o,avle ρ hp (optAV t o) (optAV t o)=True)∧toO none=none∧plO none=none∧enO none=0∧(∀x,toO (some x)=some x.1)∧(∀x,plO (some x)=some x.2.1)∧∀x,enO (some x)=x.2.2:=
 ⟨optAV_none,optAV_some,optI_none,optI_some,optP_none,optP_some,optAV_locs,optAV_ren,optAV_le,toO_none,plO_none,enO_none,toO_some,plO_some,enO_some⟩
theorem leafR_none (to:List Int) (ps:List DPlan) (n:Int):leafR to ps n none=some (to,ps,n):=rfl
theorem leafR_yes {to:List Int} {ps:List DPlan} {n:Int} {x:List Int×List DPlan×Int} (h:lessP to x.1<0∨lessP to x.1=0∧n<x.2.2):leafR to ps n (some x)=some (to,ps,n):=by
 obtain ⟨h1,h2⟩:=less_sign to x.1;show (if _ then _ else _)=_;exact if_pos (h.imp h1.1 fun z=>⟨h2.1 z.1,z.2⟩)
theorem leafR_no {to:List Int} {ps:List DPlan} {n:Int} {x:List Int×List DPlan×Int} (h1:¬lessP to x.1<0) (h2:¬(lessP to x.1=0∧n<x.2.2)):leafR to ps n (some x)=some x:=by
 obtain ⟨g1,g2⟩:=less_sign to x.1;show (if _ then _ else _)=_;exact if_neg fun z=>z.elim (fun z=>h1 (g1.2 z)) fun z=>h2 ⟨g2.2 z.1,z.2⟩
theorem set_lens {ps:List DPlan} {X:DPlan} {k c:Nat} (h:∀p∈ps,p.2.1.length≤c) (hX:X.2.1.length≤c+2):∀p∈ps.set k X,p.2.1.length≤c+2:=fun p hp=>by
 rcases List.mem_or_eq_of_mem_set hp with hp|rfl
 ·have:=h p hp;omega
 ·exact hX
def entBsX:Ent:=⟨9,.cons Z21 (.cons Z23 (.cons Z1 (.cons Z5 .nil))),.cons Z23 (.cons Z5 (.cons Z25 (.cons Z1 .nil))),true,none,fun x=>((List.length (α:=DPlan) x.2.1≤1000∧List.length (α:=Int) x.2.2.2.1≤1000)∧(List.length (α:=Int) x.2.2.2.1≤2∨4<List.length (α:=Int) x.2.2.2.1))∧∀p∈(x.2.1:List DPlan),p.2.1.length≤16,fun x=>((bestR x.1 x.2.1 x.2.2.1 x.2.2.2.1).1,(bestR x.1 x.2.1 x.2.2.1 x.2.2.2.1).2.1,(bestR x.1 x.2.1 x.2.2.1 x.2.2.2.1).2.2.1,(bestR x.1 x.2.1 x.2.2.1 x.2.2.2.1).2.2.2,())⟩
def csBsX:List Ent:=[entRgt,entHlp,entEnd,entLsP,entCiF,entCpF,entBst,entPow,entCop,entCiD,entCpD] theorem hcsBsX (f:FuncId):findEnt csBsX f=findEnt [entRgt,entHlp,entEnd,entLsP,entCiF,entCpF,entBst,entPow,entCop,entCiD,entCpD] f:=rfl
theorem hdBsX (f:FuncId):findEnt (datC csBsX) f=findEnt [entRgt,entHlp,entEnd,entLsP,entBst,entPow,entCop,entCiD,entCpD] f:=rfl
theorem XW_leq {P:Program} {C:List Ent} {n:Nat} {c:XC} {Q:XQ} {st st':AS} (hx:XW P C n c Q st') (h:le' st st'):XW P C n c Q st:=by
 intro code hc hC B M w0 ψ a w s ro hR;obtain ⟨ψ',s'⟩:=le_of h B M w0 ψ a w s;exact hx code hc hC B M w0 ψ' a w s' ro hR
set_option pp.deepTerms true
set_option pp.maxSteps 1000000
def FewR8 (w:DWorld) (ps:List DPlan) (o:List Int) (pr:List DCase):Prop:=
 (few20 w []=true∧ps.length≤3∧(o.length≤2∨4<o.length)∧o.length≤8∧pr.length≤12)∧(∀j,j<ps.length→(ps.getD j dPln).2.1.length≤4∧(ps.getD j dPln).2.2.1.length≤6∧(ps.getD j dPln).2.2.2.length≤6)∧∀j,j<pr.length→(pr.getD j dCase).1.length≤3
instance (w:DWorld) (ps:List DPlan) (o:List Int) (pr:List DCase):Decidable (FewR8 w ps o pr):=by unfold FewR8;infer_instance
def few8 (w:DWorld) (ps:List DPlan) (o:List Int) (pr:List DCase):Bool:=decide (FewR8 w ps o pr)
theorem few8_no {w:DWorld} {ps:List DPlan} {o:List Int} {pr:List DCase} (h:¬FewR8 w ps o pr):few8 w ps o pr=false:=decide_eq_false h
theorem few8_yes {w:DWorld} {ps:List DPlan} {o:List Int} {pr:List DCase} (h:FewR8 w ps o pr):few8 w ps o pr=true:=decide_eq_true h
def entFew8:Ent:=⟨8,.cons Z21 (.cons Z23 (.cons Z5 (.cons Z25 .nil))),.bool,false,none,fun _=>True,fun x=>few8 x.1 x.2.1 x.2.2.1 x.2.2.2.1⟩
def csFew8:List Ent:=[entFew20] theorem hcsFew8 (f:FuncId):findEnt csFew8 f=findEnt [entFew20] f:=rfl
set_option maxHeartbeats 4000000 in
theorem conFew8:Con Tryz.prog entFew8:=by
 refine con_is (C:=csFew8) x8 (by kernel_rfl) (by simp[csFew8,conFew20]) fun x hx hf=>?_;obtain ⟨⟨(N:Int),(A:List DArc),(C:List DCar),(Q:List DReq),(P:List DPair),(S1:Int),(S2:Int),(S3:Int)⟩,(ps:List DPlan),(o:List Int),(pr:List DCase),_⟩:=x;dsimp only[entFew8,x8];obtain ⟨f,hf0⟩:∃f,few20 (N,A,C,Q,P,S1,S2,S3) []=f:=⟨_,rfl⟩;by_cases hA:few20 (N,A,C,Q,P,S1,S2,S3) []=true∧ps.length≤3∧(o.length≤2∨4<o.length)∧o.length≤8∧pr.length≤12
 case neg=>
  have hno:few8 (N,A,C,Q,P,S1,S2,S3) ps o pr=false:=few8_no fun h=>hA h.1;simp only[↓hcsFew8,entFew20,hf0,hno,go_sem];try simp only[hf0,hno,td,reduceCtorEq]
  refine ⟨fun h=>⟨h,fun g=>⟨h,g⟩⟩,fun h=>absurd ⟨hf0.trans h.1.1.1.1,by omega,?_,by omega,by omega⟩ hA⟩;rcases Nat.lt_or_ge 2 o.length with g|g
  ·exact .inr (by have:=h.1.1.2 (by omega);omega)
  ·exact .inl g
 obtain ⟨a1,a2,a3,a4,a5⟩:=hA;rw[a1] at hf0;subst hf0;have i2:¬(ps.length:Int)>3:=by omega
 have i4:¬(o.length:Int)>8:=by omega
 have i5:¬(pr.length:Int)>12:=by omega
 simp only[↓hcsFew8,entFew20,a1,i2,i4,i5,go_sem];try simp only[a1,i2,i4,i5,td,reduceCtorEq]
 refine ⟨fun g=>(show False by omega).elim,fun _=>?_⟩;refine XW_for 1000 x8_0d [0] Nat (fun j=>[(9,.val Z1 (j:Int))]) (fun _=>[]) (fun j=>j≤ps.length∧∀i,i<j→(ps.getD i dPln).2.1.length≤4∧(ps.getD i dPln).2.2.1.length≤6∧(ps.getD i dPln).2.2.2.length≤6) (fun j=>ps.length-j) 0 ?_ ?_ ?_
 ·dsimp only[x8_0d];simp only[go_sem];first|done|exact ⟨rfl,rfl⟩|rfl
 ·exact ⟨Nat.zero_le _,fun i hi=>by omega⟩
 rintro j ⟨hj,hn⟩;dsimp only[x8_0,x8_0d];by_cases hj':j<ps.length
 case pos=>
  have w1:IntKind.i64.wrap ((j:Int)+1)=((j+1:Nat):Int):=i64_in _ (by omega);have hno:¬((ps.getD j dPln).2.1.length≤4∧(ps.getD j dPln).2.2.1.length≤6∧(ps.getD j dPln).2.2.2.length≤6)→few8 (N,A,C,Q,P,S1,S2,S3) ps o pr=false:=fun h=>few8_no fun z=>h (z.2.1 j hj');have hnx:((ps.getD j dPln).2.1.length≤4∧(ps.getD j dPln).2.2.1.length≤6∧(ps.getD j dPln).2.2.2.length≤6)→∀i,i<j+1→(ps.getD i dPln).2.1.length≤4∧(ps.getD i dPln).2.2.1.length≤6∧(ps.getD i dPln).2.2.2.length≤6:=fun h i hi=>by
   rcases Nat.lt_or_ge i j with q|q
   ·exact hn i q
   ·rw[show i=j by omega];exact h
  dsimp only[dPln] at hno hnx;obtain ⟨⟨c,ss,L,G⟩,hP⟩:∃p:DPlan,ps.getD j (0,[],[],[])=p:=⟨_,rfl⟩;rw[hP] at hno hnx;dsimp only at hno hnx;simp only[↓hcsFew8,entFew20,hj',hP,w1,go_sem];try simp only[hj',hP,w1,td,reduceCtorEq]
  exact ⟨fun h=>(hno (fun z=>by omega)).symm,fun h=>⟨j+1,by omega,⟨by omega,hnx ⟨by omega,by omega,by omega⟩⟩,rfl⟩⟩
 obtain rfl:j=ps.length:=by omega
 simp only[↓hcsFew8,entFew20,hj',go_sem];try simp only[hj',td,reduceCtorEq]
 refine XW_for 2000 x8_1d [0] Nat (fun j=>[(10,.val Z1 (j:Int))]) (fun _=>[]) (fun j=>j≤pr.length∧∀i,i<j→(pr.getD i dCase).1.length≤3) (fun j=>pr.length-j) 0 ?_ ?_ ?_
 ·dsimp only[x8_1d];simp only[go_sem];first|done|exact ⟨rfl,rfl⟩|rfl
 ·exact ⟨Nat.zero_le _,fun i hi=>by omega⟩
 rintro k ⟨hk,hm⟩;dsimp only[x8_1,x8_1d];by_cases hk':k<pr.length
 case pos=>
  have w1:IntKind.i64.wrap ((k:Int)+1)=((k+1:Nat):Int):=i64_in _ (by omega);have hno:¬(pr.getD k dCase).1.length≤3→few8 (N,A,C,Q,P,S1,S2,S3) ps o pr=false:=fun h=>few8_no fun z=>h (z.2.2 k hk');have hnx:(pr.getD k dCase).1.length≤3→∀i,i<k+1→(pr.getD i dCase).1.length≤3:=fun h i hi=>by
   rcases Nat.lt_or_ge i k with q|q
   ·exact hm i q
   ·rw[show i=k by omega];exact h
  dsimp only[dCase] at hno hnx;obtain ⟨⟨ct,cn⟩,hP⟩:∃p:DCase,pr.getD k ([],0)=p:=⟨_,rfl⟩;rw[hP] at hno hnx;dsimp only at hno hnx;simp only[↓hcsFew8,entFew20,hk',hP,w1,go_sem];try simp only[hk',hP,w1,td,reduceCtorEq]
  exact ⟨fun h=>(hno (by omega)).symm,fun h=>⟨k+1,by omega,⟨by omega,hnx (by omega)⟩,rfl⟩⟩
 obtain rfl:k=pr.length:=by omega
 have hyes:few8 (N,A,C,Q,P,S1,S2,S3) ps o pr=true:=few8_yes ⟨⟨a1,a2,a3,a4,a5⟩,hn,hm⟩;simp only[↓hcsFew8,entFew20,hk',hyes,go_sem];try simp only[hk',hyes,td,reduceCtorEq]
end T
end Go.Proofs.YtpocfbfmjippnaaGreat
end
