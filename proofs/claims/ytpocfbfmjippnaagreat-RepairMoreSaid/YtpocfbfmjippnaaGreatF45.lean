/- Parts of the proof of the law; no condition. -/
import Derived.Test.YtpocfbfmjippnaaGreatF44
set_option linter.all false
section
namespace Go.Proofs.YtpocfbfmjippnaaGreat
open Go.RowKit Go.IntWalk
namespace T
set_option pp.deepTerms true
set_option pp.maxSteps 1000000
def FewR8 (w:DWorld) (ps:List DPlan) (o:List Int) (pr:List DCase):Prop:=
 (few20 w []=true∧ps.length≤3∧(o.length≤2∨4<o.length)∧o.length≤8∧pr.length≤12)∧(∀j,j<ps.length→(ps.getD j dPln).2.1.length≤4∧(ps.getD j dPln).2.2.1.length≤6∧(ps.getD j dPln).2.2.2.length≤6)∧∀j,j<pr.length→(pr.getD j dCase).1.length≤3
instance (w:DWorld) (ps:List DPlan) (o:List Int) (pr:List DCase):Decidable (FewR8 w ps o pr):=by unfold FewR8;infer_instance
def few8 (w:DWorld) (ps:List DPlan) (o:List Int) (pr:List DCase):Bool:=decide (FewR8 w ps o pr)
theorem few8_no {w:DWorld} {ps:List DPlan} {o:List Int} {pr:List DCase} (h:¬FewR8 w ps o pr):few8 w ps o pr=false:=decide_eq_false h
theorem few8_yes {w:DWorld} {ps:List DPlan} {o:List Int} {pr:List DCase} (h:FewR8 w ps o pr):few8 w ps o pr=true:=decide_eq_true h
def entFew8:Ent:=⟨8,.cons Z23 (.cons Z25 (.cons Z9 (.cons Z24 .nil))),.bool,false,none,fun _=>True,fun x=>few8 x.1 x.2.1 x.2.2.1 x.2.2.2.1⟩
def csFew8:List Ent:=[entFew20] theorem hcsFew8 (f:FuncId):findEnt csFew8 f=findEnt [entFew20] f:=rfl
set_option maxHeartbeats 4000000 in
theorem conFew8:Con Tryz.prog entFew8:=by
 refine con_is (C:=csFew8) x8 (by kernel_rfl) (by simp[csFew8,conFew20]) fun x hx hf=>?_;obtain ⟨⟨(N:Int),(A:List DArc),(C:List DCar),(Q:List DReq),(P:List DPair),(S1:Int),(S2:Int),(S3:Int)⟩,(ps:List DPlan),(o:List Int),(pr:List DCase),_⟩:=x;dsimp only[entFew8,x8,Z23,Za,Zb,Zc,Ze,Zg];obtain ⟨f,hf0⟩:∃f,few20 (N,A,C,Q,P,S1,S2,S3) []=f:=⟨_,rfl⟩;by_cases hA:few20 (N,A,C,Q,P,S1,S2,S3) []=true∧ps.length≤3∧(o.length≤2∨4<o.length)∧o.length≤8∧pr.length≤12
 case neg=>
  have hno:few8 (N,A,C,Q,P,S1,S2,S3) ps o pr=false:=few8_no fun h=>hA h.1;simp only[↓hcsFew8,entFew20,hf0,hno,go_sem];try simp only[hf0,hno,td,reduceCtorEq]
  refine ⟨fun h=>⟨h,fun g=>⟨h,g⟩⟩,fun h=>absurd ⟨hf0.trans h.1.1.1.1,by omega,?_,by omega,by omega⟩ hA⟩;rcases Nat.lt_or_ge 2 o.length with g|g
  ·exact .inr (by have:=h.1.1.2 (by omega);omega)
  ·exact .inl g
 obtain ⟨a1,a2,a3,a4,a5⟩:=hA;rw[a1] at hf0;subst hf0;have i2:¬(ps.length:Int)>3:=by omega
 have i4:¬(o.length:Int)>8:=by omega
 have i5:¬(pr.length:Int)>12:=by omega
 simp only[↓hcsFew8,entFew20,a1,i2,i4,i5,go_sem];try simp only[a1,i2,i4,i5,td,reduceCtorEq]
 refine ⟨fun g=>(show False by omega).elim,fun _=>?_⟩;refine XW_for 1000 x8_0d [0] Nat (fun j=>[(9,.val Z1 (j:Int))]) (fun _=>[]) (fun j=>j≤ps.length∧∀i,i<j→(ps.getD i dPln).2.1.length≤4∧(ps.getD i dPln).2.2.1.length≤6∧(ps.getD i dPln).2.2.2.length≤6) (fun j=>ps.length-j) 0 ?_ ?_ ?_
 ·dsimp only[x8_0d];simp only[go_sem];first|done|exact ⟨rfl,rfl⟩|rfl
 ·exact ⟨Nat.zero_le _,fun i hi=>by omega⟩
 rintro j ⟨hj,hn⟩;dsimp only[x8_0,x8_0d,Z10,Z11,Z3,Z9,Za,Zb,Zc,Ze,Zg];by_cases hj':j<ps.length
 case pos=>
  have w1:IntKind.i64.wrap ((j:Int)+1)=((j+1:Nat):Int):=i64_in _ (by omega);have hno:¬((ps.getD j dPln).2.1.length≤4∧(ps.getD j dPln).2.2.1.length≤6∧(ps.getD j dPln).2.2.2.length≤6)→few8 (N,A,C,Q,P,S1,S2,S3) ps o pr=false:=fun h=>few8_no fun z=>h (z.2.1 j hj');have hnx:((ps.getD j dPln).2.1.length≤4∧(ps.getD j dPln).2.2.1.length≤6∧(ps.getD j dPln).2.2.2.length≤6)→∀i,i<j+1→(ps.getD i dPln).2.1.length≤4∧(ps.getD i dPln).2.2.1.length≤6∧(ps.getD i dPln).2.2.2.length≤6:=fun h i hi=>by
   rcases Nat.lt_or_ge i j with q|q
   ·exact hn i q
   ·rw[show i=j by omega];exact h
  dsimp only[dPln] at hno hnx;obtain ⟨⟨c,ss,L,G⟩,hP⟩:∃p:DPlan,ps.getD j (0,[],[],[])=p:=⟨_,rfl⟩;rw[hP] at hno hnx;dsimp only at hno hnx;simp only[↓hcsFew8,entFew20,hj',hP,w1,go_sem];try simp only[hj',hP,w1,td,reduceCtorEq]
  exact ⟨fun h=>(hno (fun z=>by omega)).symm,fun h=>⟨j+1,by omega,⟨by omega,hnx ⟨by omega,by omega,by omega⟩⟩,rfl⟩⟩
 obtain rfl:j=ps.length:=by omega
 simp only[↓hcsFew8,entFew20,hj',go_sem];try simp only[hj',td,reduceCtorEq]
 refine XW_for 2000 x8_1d [0] Nat (fun j=>[(10,.val Z1 (j:Int))]) (fun _=>[]) (fun j=>j≤pr.length∧∀i,i<j→(pr.getD i dCase).1.length≤3) (fun j=>pr.length-j) 0 ?_ ?_ ?_
 ·dsimp only[x8_1d];simp only[go_sem];first|done|exact ⟨rfl,rfl⟩|rfl
 ·exact ⟨Nat.zero_le _,fun i hi=>by omega⟩
 rintro k ⟨hk,hm⟩;dsimp only[x8_1,x8_1d,Z12,Z9,Za,Zb,Zg];by_cases hk':k<pr.length
 case pos=>
  have w1:IntKind.i64.wrap ((k:Int)+1)=((k+1:Nat):Int):=i64_in _ (by omega);have hno:¬(pr.getD k dCase).1.length≤3→few8 (N,A,C,Q,P,S1,S2,S3) ps o pr=false:=fun h=>few8_no fun z=>h (z.2.2 k hk');have hnx:(pr.getD k dCase).1.length≤3→∀i,i<k+1→(pr.getD i dCase).1.length≤3:=fun h i hi=>by
   rcases Nat.lt_or_ge i k with q|q
   ·exact hm i q
   ·rw[show i=k by omega];exact h
  dsimp only[dCase] at hno hnx;obtain ⟨⟨ct,cn⟩,hP⟩:∃p:DCase,pr.getD k ([],0)=p:=⟨_,rfl⟩;rw[hP] at hno hnx;dsimp only at hno hnx;simp only[↓hcsFew8,entFew20,hk',hP,w1,go_sem];try simp only[hk',hP,w1,td,reduceCtorEq]
  exact ⟨fun h=>(hno (by omega)).symm,fun h=>⟨k+1,by omega,⟨by omega,hnx (by omega)⟩,rfl⟩⟩
 obtain rfl:k=pr.length:=by omega
 have hyes:few8 (N,A,C,Q,P,S1,S2,S3) ps o pr=true:=few8_yes ⟨⟨a1,a2,a3,a4,a5⟩,hn,hm⟩;simp only[↓hcsFew8,entFew20,hk',hyes,go_sem];try simp only[hk',hyes,td,reduceCtorEq]
end T
end Go.Proofs.YtpocfbfmjippnaaGreat
end
