/- Parts of the proof of the law; no condition. -/
import Derived.Test.YtpocfbfmjippnaaGreatG27
set_option linter.all false
section
namespace Go.Proofs.YtpocfbfmjippnaaGreat
open Go.RowKit Go.IntWalk
namespace T
def entSmP:Ent:=⟨29,.cons Z22 (.cons Z22 .nil),.bool,false,none,fun _=>True,fun x=>decide ((x.1:DPlan)=x.2.1)⟩
def csSmP:List Ent:=[entSmLg,entSmSt,entInt16] theorem hcsSmP (f:FuncId):findEnt csSmP f=findEnt [entSmLg,entSmSt,entInt16] f:=rfl
theorem conSmP:Con Tryz.prog entSmP:=by
 refine con_is (C:=csSmP) x29 (by kernel_rfl) (by simp[csSmP,conSmLg,conSmSt,conInt16]) fun x hx hf=>?_;obtain ⟨⟨(c:Int),(ss:List DStop),(Lg:List DLeg),(Lv:List Int)⟩,⟨(c':Int),(ss':List DStop),(Lg':List DLeg),(Lv':List Int)⟩,_⟩:=x;dsimp only[entSmP,x29];simp only[↓hcsSmP,entSmLg,entSmSt,entInt16,undef,go_sem];try simp only[td,reduceCtorEq]
 rw[Bool.eq_iff_iff];simp only[Bool.and_eq_true,beq_iff_eq,decide_eq_true_eq,Prod.mk.injEq,and_assoc]
def few20 (w:DWorld) (ss:List DStop):Bool:=
 ((List.range w.2.1.length).all fun k=>decide (10<k∨((w.2.1.getD k (0,0,[],[])).2.2.1.length≤25∧(w.2.1.getD k (0,0,[],[])).2.2.2.length≤25)))&&
 decide ((w.1≤5∨w.1>2000)∧w.2.1.length≤10∧w.2.2.1.length≤4∧w.2.2.2.1.length≤8∧w.2.2.2.2.1.length≤5∧ss.length≤10)
def entFew20:Ent:=⟨30,.cons Z21 (.cons Z15 .nil),.bool,false,none,fun _=>True,fun x=>few20 x.1 x.2.1⟩
def csFew20:List Ent:=[] theorem hcsFew20 (f:FuncId):findEnt csFew20 f=findEnt [] f:=rfl
theorem conFew20:Con Tryz.prog entFew20:=by
 refine con_is (C:=csFew20) x30 (by kernel_rfl) (by simp[csFew20]) fun x hx hf=>?_;obtain ⟨⟨(N:Int),(A:List DArc),(C:List DCar),(Q:List DReq),(P:List DPair),(S1:Int),(S2:Int),(S3:Int)⟩,(ss:List DStop),_⟩:=x;dsimp only[entFew20,x30];simp only[↓hcsFew20,undef,go_sem];try simp only[td,reduceCtorEq]
 have hN1:N>2000↔2000<N:=Iff.rfl;refine XW_for 1000 x30_0d [0] Nat (fun j=>[(5,.val Z1 (j:Int))]) (fun _=>[]) (fun j=>(j≤A.length∧j≤11)∧∀i,i<j→(A.getD i (0,0,[],[])).2.2.1.length≤25∧(A.getD i (0,0,[],[])).2.2.2.length≤25) (fun j=>A.length-j) 0 ?_ ?_ ?_
 ·dsimp only[x30_0d];simp only[go_sem];try trivial
 ·exact ⟨⟨Nat.zero_le _,by omega⟩,fun i hi=>by omega⟩
 rintro j ⟨⟨hj,hj11⟩,hn⟩;by_cases hja:j<A.length∧j≤10
 ·obtain ⟨hja,hjb⟩:=hja;have w2:IntKind.i64.wrap ((j:Int)+1)=((j+1:Nat):Int):=i64_in _ (by omega);have hjbi:(j:Int)≤10:=by omega
  have hno:¬((A.getD j (0,0,[],[])).2.2.1.length≤25∧(A.getD j (0,0,[],[])).2.2.2.length≤25)→few20 (N,A,C,Q,P,S1,S2,S3) ss=false:=fun h=>by
   unfold few20;rw[Bool.and_eq_false_iff];refine .inl (List.all_eq_false.2 ⟨j,List.mem_range.2 hja,?_⟩);rw[decide_eq_true_eq];rintro (q|q)
   ·omega
   ·exact h q
  dsimp only[x30_0,x30_0d];simp only[↓hcsFew20,undef,hja,hjb,hjbi,w2,go_sem];try simp only[hja,hjb,hjbi,w2,td,reduceCtorEq]
  refine ⟨fun h=>(hno fun q=>?_).symm,fun h=>⟨j+1,by omega,⟨⟨by omega,by omega⟩,fun i hi=>?_⟩,rfl⟩⟩
  ·rcases h with h|h
   ·exact absurd (Int.ofNat_le.2 q.1) (Int.not_le.2 h)
   ·exact absurd (Int.ofNat_le.2 q.2) (Int.not_le.2 h)
  ·rcases Nat.lt_or_ge i j with q|q
   ·exact hn i q
   ·rw[show i=j by omega];exact ⟨Int.ofNat_le.1 h.1,Int.ofNat_le.1 h.2⟩
 ·have hf1:few20 (N,A,C,Q,P,S1,S2,S3) ss=decide ((N≤5∨N>2000)∧A.length≤10∧C.length≤4∧Q.length≤8∧P.length≤5∧ss.length≤10):=by
   unfold few20;dsimp only;rw[List.all_eq_true.2 fun k hk=>?_,Bool.true_and];rw[decide_eq_true_eq];have:=List.mem_range.1 hk;by_cases q:k<j
   ·exact .inr (hn k q)
   ·left;omega
  have hcond:¬((j:Int)<(A.length:Int)∧(j:Int)≤10):=by omega
  dsimp only[x30_0,x30_0d];simp only[↓hcsFew20,undef,hf1,go_sem];try simp only[hf1,td,reduceCtorEq]
  refine ⟨fun h=>absurd ⟨h.1,by omega⟩ hja,fun _=>?_⟩;rw[Bool.eq_iff_iff];simp only[Bool.and_eq_true,Bool.or_eq_true,decide_eq_true_eq];omega
def entClF:Ent:=⟨57,.cons Z15 .nil,Z15,false,some 68,fun x=>List.length (α:=DStop) x.1≤1000000,fun x=>x.1⟩
def csClF:List Ent:=[] theorem hcsClF (f:FuncId):findEnt csClF f=findEnt [] f:=rfl
theorem conClF:Con Tryz.prog entClF:=by
 refine con_is (C:=csClF) x57 (by kernel_rfl) (by simp[csClF]) fun x hx hf=>?_;obtain ⟨(S:List DStop),_⟩:=x;have hS:S.length≤1000000:=hx;dsimp only[entClF,x57];simp only[↓hcsClF,go_sem];try simp only[td,reduceCtorEq]
 exact ⟨fun q=>q.symm,by omega⟩
def entIst:Ent:=⟨81,.cons Z15 (.cons Z1 (.cons Z1 (.cons Z1 .nil))),Z15,false,none,fun x=>List.length (α:=DStop) x.1≤1000,fun x=>stopsI x.1 x.2.1 x.2.2.1 x.2.2.2.1⟩
def csIst:List Ent:=[entClF,entInsStop] theorem hcsIst (f:FuncId):findEnt csIst f=findEnt [entClF,entInsStop] f:=rfl
theorem conIst:Con Tryz.prog entIst:=by
 refine con_is (C:=csIst) x81 (by kernel_rfl) (by simp[csIst,conClF,conInsStop]) fun x hx hf=>?_;obtain ⟨(ss:List DStop),(r:Int),(a:Int),(b:Int),_⟩:=x;have hl:ss.length≤1000:=hx;dsimp only[entIst,x81];by_cases h:a<0∨b<a∨(ss.length:Int)<b
 ·have e:stopsI ss r a b=[]:=by unfold stopsI;rw[if_pos h]
  have e2:(decide (a<0)||decide (b<a)||decide (b>(ss.length:Int)))=true:=by
   simp only[Bool.or_eq_true,decide_eq_true_eq];omega
  by_cases h1:a<0
  ·simp only[↓hcsIst,entClF,entInsStop,undef,e,h1,go_sem];try simp only[e,h1,td,reduceCtorEq]
  by_cases h2:b<a
  ·simp only[↓hcsIst,entClF,entInsStop,undef,e,h1,h2,go_sem];try simp only[e,h1,h2,td,reduceCtorEq]
  have h3:(ss.length:Int)<b:=by omega
  have h4:b>(ss.length:Int):=h3;simp only[↓hcsIst,entClF,entInsStop,undef,e,h1,h2,h3,h4,go_sem];try simp only[e,h1,h2,h3,h4,td,reduceCtorEq]
 ·have h1:¬a<0:=by omega
  have h2:¬b<a:=by omega
  have h3:¬(ss.length:Int)<b:=by omega
  have h4:¬b>(ss.length:Int):=h3;have a0:0≤a:=by omega
  have b0:0≤b:=by omega
  have b1:b≤(ss.length:Int):=by omega
  have hi:=insF_len ss (k:=b.toNat) (by omega) (r,false);have a1:a≤((insF ss b.toNat [(r,false)]).length:Int):=by omega
  have l1:ss.length≤1000000:=by omega
  have l2:(insF ss b.toNat [(r,false)]).length≤1000000:=by omega
  have e:stopsI ss r a b=insF (insF ss b.toNat [(r,false)]) a.toNat [(r,true)]:=by unfold stopsI;rw[if_neg h]
  rw[e];simp only[↓hcsIst,entClF,entInsStop,undef,h1,h2,h3,h4,a0,b0,b1,a1,l1,l2,go_sem];try simp only[h1,h2,h3,h4,a0,b0,b1,a1,l1,l2,td,reduceCtorEq]
def entIdxFuncStp:Ent:=⟨111,.cons Z15 (.cons (.fn Z2 .bool) .nil),(.int .i64),false,none,fun _=>True,fun x=>idxF x.2.1 x.1⟩
theorem conIdxFuncStp:Con Tryz.prog entIdxFuncStp:=by
 refine con_is (C:=[]) x111 (by kernel_rfl) (by simp) fun x _ hf=>?_;obtain ⟨(xs:List DStop),(p:DStop→Bool),_⟩:=x;have hl:xs.length≤maxLen:=hf.1.1;dsimp only[entIdxFuncStp,x111];simp only[go_sem];refine XW_for 1000 x111_0d [] Nat (fun k=>[(8,.val Z1 (k:Int))]) (fun _=>[]) (fun k=>k≤xs.length∧∀j,j<k→p (xs.getD j dStop)=false) (fun k=>xs.length-k) 0 ?_ ?_ ?_
 ·dsimp only[x111_0d];simp only[go_sem];rfl
 ·exact ⟨by omega,fun j hj=>by omega⟩
 ·intro k hk;dsimp only[x111_0,x111_0d];simp only[go_sem];dsimp only[maxLen] at hl;by_cases hkl:k<xs.length
  ·simp only[hkl,td,reduceCtorEq];refine ⟨fun h=>(idxF_at hkl hk.2 h).symm,fun h=>⟨k+1,by omega,⟨by omega,fun j hj=>?_⟩,i64_in _ (by omega)⟩⟩;rcases Nat.lt_succ_iff_lt_or_eq.1 hj with h'|rfl
   ·exact hk.2 j h'
   ·exact h
  ·simp only[hkl,td,reduceCtorEq];exact (idxF_none fun j hj=>hk.2 j (by omega)).symm
def entConFuncStp:Ent:=⟨64,.cons Z15 (.cons (.fn Z2 .bool) .nil),.bool,false,none,fun _=>True,fun x=>x.1.any x.2.1⟩
theorem conConFuncStp:Con Tryz.prog entConFuncStp:=by
 refine con_is (C:=[entIdxFuncStp]) x64 (by kernel_rfl) (by simp[conIdxFuncStp]) fun x _ hf=>?_;obtain ⟨(xs:List DStop),(p:DStop→Bool),_⟩:=x;dsimp only[entConFuncStp,entIdxFuncStp,x64];simp only[go_sem];refine eq_of_iff ?_;rw[←idxF_any];simp
def entEr1:Ent:=⟨136,.cons Z2 (.cons (.ptr (.int .i64)) .nil),.bool,false,none,fun _=>True,fun x=>decide ((x.1:DStop).1=x.2.1)⟩
def csEr1:List Ent:=[] theorem hcsEr1 (f:FuncId):findEnt csEr1 f=findEnt [] f:=rfl
theorem conEr1:Con Tryz.prog entEr1:=by
 refine con_is (C:=csEr1) x136 (by kernel_rfl) (by simp[csEr1]) fun x hx hf=>?_;obtain ⟨⟨(n:Int),(b:Bool)⟩,(m:Int),_⟩:=x;dsimp only[entEr1,x136];simp only[↓hcsEr1,go_sem];try simp only[td,reduceCtorEq]
 rfl
def entErr:Ent:=⟨80,.cons Z21 (.cons Z22 (.cons Z1 .nil)),(.int .i64),false,none,fun x=>List.length (α:=DStop) (x.2.1:DPlan).2.1≤22,fun x=>errI x.1 x.2.1 x.2.2.1⟩
def csErr:List Ent:=[entPlR,entCkP,entConFuncStp,entEr1] theorem hcsErr (f:FuncId):findEnt csErr f=findEnt [entPlR,entCkP,entConFuncStp,entEr1] f:=rfl
theorem conErr:Con Tryz.prog entErr:=by
 refine con_is (C:=csErr) x80 (by kernel_rfl) (by simp[csErr,conPlR,conCkP,conConFuncStp,conEr1]) fun x hx hf=>?_;obtain ⟨⟨(N:Int),(A:List DArc),(C:List DCar),(Q:List DReq),(R:List DPair),(S1:Int),(S2:Int),(S3:Int)⟩,⟨(c:Int),(ss:List DStop),(L:List DLeg),(G:List Int)⟩,(r:Int),_⟩:=x;have hl:ss.length≤22:=hx;have hl':ss.length≤24:=by omega
 dsimp only[entErr,x80];have hE:errI (N,A,C,Q,R,S1,S2,S3) (c,ss,L,G) r=if rightP (N,A,C,Q,R,S1,S2,S3)=false∨checkP (N,A,C,Q,R,S1,S2,S3) (c,ss,L,G)≠0∨r<0∨(Q.length:Int)≤r∨(ss.any fun s=>decide (s.1=r))=true then 1 else 0:=rfl
 have h78:¬(ss.length:Int)>78:=by omega
 cases h1:rightP (N,A,C,Q,R,S1,S2,S3)
 ·rw[h1,if_pos (.inl rfl)] at hE;simp only[↓hcsErr,entPlR,entCkP,entConFuncStp,entEr1,undef,hE,h1,hl',h78,go_sem];try simp only[hE,h1,hl',h78,td,reduceCtorEq]
 by_cases h2:checkP (N,A,C,Q,R,S1,S2,S3) (c,ss,L,G)=0
 ·by_cases h3:r<0
  ·rw[if_pos (.inr (.inr (.inl h3)))] at hE;simp only[↓hcsErr,entPlR,entCkP,entConFuncStp,entEr1,undef,hE,h1,h2,h3,hl',h78,go_sem];try simp only[hE,h1,h2,h3,hl',h78,td,reduceCtorEq]
  by_cases h4:(Q.length:Int)≤r
  ·rw[if_pos (.inr (.inr (.inr (.inl h4))))] at hE;have h4':r≥(Q.length:Int):=h4;simp only[↓hcsErr,entPlR,entCkP,entConFuncStp,entEr1,undef,hE,h1,h2,h3,h4,h4',hl',h78,go_sem];try simp only[hE,h1,h2,h3,h4,h4',hl',h78,td,reduceCtorEq]
  have h4':¬r≥(Q.length:Int):=h4;cases h5:(ss.any fun s=>decide (s.1=r))
  ·rw[if_neg (by rw[h1,h5];rintro (q|q|q|q|q)<;>first|exact h3 q|exact h4 q|exact q h2|cases q)] at hE;simp only[↓hcsErr,entPlR,entCkP,entConFuncStp,entEr1,undef,hE,h1,h2,h3,h4,h4',h5,hl',h78,go_sem];try simp only[hE,h1,h2,h3,h4,h4',h5,hl',h78,td,reduceCtorEq]
  ·rw[if_pos (.inr (.inr (.inr (.inr h5))))] at hE;simp only[↓hcsErr,entPlR,entCkP,entConFuncStp,entEr1,undef,hE,h1,h2,h3,h4,h4',h5,hl',h78,go_sem];try simp only[hE,h1,h2,h3,h4,h4',h5,hl',h78,td,reduceCtorEq]
 ·rw[if_pos (.inr (.inl h2))] at hE;simp only[↓hcsErr,entPlR,entCkP,entConFuncStp,entEr1,undef,hE,h1,h2,hl',h78,go_sem];try simp only[hE,h1,h2,hl',h78,td,reduceCtorEq]
end T
end Go.Proofs.YtpocfbfmjippnaaGreat
end
