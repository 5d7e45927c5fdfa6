/- Parts of the proof of the law; no condition. -/
import Derived.Test.YtpocfbfmjippnaaGreatH32
import Derived.Test.YtpocfbfmjippnaaGreatH37
set_option linter.all false
section
namespace Go.Proofs.YtpocfbfmjippnaaGreat
open Go.RowKit Go.IntWalk
namespace T
def entIdxI:Ent:=⟨112,.cons Z5 (.cons Z1 .nil),(.int .i64),false,none,fun _=>True,fun x=>idxF (fun y=>x.2.1==y) x.1⟩
theorem conIdxI:Con Tryz.prog entIdxI:=by
 refine con_is (C:=[]) x112 (by kernel_rfl) (by simp) fun x _ hf=>?_;obtain ⟨(xs:List Int),(p:Int),_⟩:=x;have hl:xs.length≤maxLen:=hf.1.1;dsimp only[entIdxI,x112];simp only[go_sem];refine XW_for 1000 x112_0d [] Nat (fun k=>[(8,.val Z1 (k:Int))]) (fun _=>[]) (fun k=>k≤xs.length∧∀j,j<k→(p==xs.getD j 0)=false) (fun k=>xs.length-k) 0 ?_ ?_ ?_
 ·dsimp only[x112_0d];simp only[go_sem];rfl
 ·exact ⟨by omega,fun j hj=>by omega⟩
 ·intro k hk;dsimp only[x112_0,x112_0d];simp only[go_sem];dsimp only[maxLen] at hl;by_cases hkl:k<xs.length
  ·simp only[hkl,td,reduceCtorEq];refine ⟨fun h=>(idxF_at (p:=fun y=>p==y) hkl hk.2 (by simpa using h)).symm,fun h=>⟨k+1,by omega,⟨by omega,fun j hj=>?_⟩,i64_in _ (by omega)⟩⟩;rcases Nat.lt_succ_iff_lt_or_eq.1 hj with h'|rfl
   ·simpa using hk.2 j h'
   ·simpa using h
  ·simp only[hkl,td,reduceCtorEq];exact (idxF_none (p:=fun y=>p==y) fun j hj=>hk.2 j (by omega)).symm
def entHasI:Ent:=⟨66,.cons Z5 (.cons Z1 .nil),.bool,false,none,fun _=>True,fun x=>decide ((x.2.1:Int)∈(x.1:List Int))⟩
theorem conHasI:Con Tryz.prog entHasI:=by
 refine con_is (C:=[entIdxI]) x66 (by kernel_rfl) (by simp[conIdxI]) fun x _ hf=>?_;obtain ⟨(xs:List Int),(p:Int),_⟩:=x;dsimp only[entHasI,entIdxI,x66];simp only[go_sem];refine eq_of_iff ?_;have:=idxF_any (fun y=>p==y) xs;simp only[decide_eq_true_eq,ge_iff_le];rw[this];simp[List.any_eq_true]
def entIdxFuncPl:Ent:=⟨110,.cons Z23 (.cons (.fn Z22 .bool) .nil),(.int .i64),false,none,fun _=>True,fun x=>idxF x.2.1 x.1⟩
theorem conIdxFuncPl:Con Tryz.prog entIdxFuncPl:=by
 refine con_is (C:=[]) x110 (by kernel_rfl) (by simp) fun x _ hf=>?_;obtain ⟨(xs:List DPlan),(p:DPlan→Bool),_⟩:=x;have hl:xs.length≤maxLen:=hf.1.1;dsimp only[entIdxFuncPl,x110];simp only[go_sem];refine XW_for 1000 x110_0d [] Nat (fun k=>[(8,.val Z1 (k:Int))]) (fun _=>[]) (fun k=>k≤xs.length∧∀j,j<k→p (xs.getD j (0,[],[],[]))=false) (fun k=>xs.length-k) 0 ?_ ?_ ?_
 ·dsimp only[x110_0d];simp only[go_sem];rfl
 ·exact ⟨by omega,fun j hj=>by omega⟩
 ·intro k hk;dsimp only[x110_0,x110_0d];simp only[go_sem];dsimp only[maxLen] at hl;by_cases hkl:k<xs.length
  ·simp only[hkl,td,reduceCtorEq];refine ⟨fun h=>(idxF_at hkl hk.2 h).symm,fun h=>⟨k+1,by omega,⟨by omega,fun j hj=>?_⟩,i64_in _ (by omega)⟩⟩;rcases Nat.lt_succ_iff_lt_or_eq.1 hj with h'|rfl
   ·exact hk.2 j h'
   ·exact h
  ·simp only[hkl,td,reduceCtorEq];exact (idxF_none fun j hj=>hk.2 j (by omega)).symm
def entConFuncPl:Ent:=⟨62,.cons Z23 (.cons (.fn Z22 .bool) .nil),.bool,false,none,fun _=>True,fun x=>x.1.any x.2.1⟩
theorem conConFuncPl:Con Tryz.prog entConFuncPl:=by
 refine con_is (C:=[entIdxFuncPl]) x62 (by kernel_rfl) (by simp[conIdxFuncPl]) fun x _ hf=>?_;obtain ⟨(xs:List DPlan),(p:DPlan→Bool),_⟩:=x;dsimp only[entConFuncPl,entIdxFuncPl,x62];simp only[go_sem];refine eq_of_iff ?_;rw[←idxF_any];simp
def entRg1:Ent:=⟨63,.cons Z22 (.cons (.ptr Z22) .nil),.bool,false,none,fun _=>True,fun x=>decide ((x.1:DPlan).1=(x.2.1:DPlan).1)⟩
def csRg1:List Ent:=[] theorem hcsRg1 (f:FuncId):findEnt csRg1 f=findEnt [] f:=rfl
theorem conRg1:Con Tryz.prog entRg1:=by
 refine con_is (C:=csRg1) x63 (by kernel_rfl) (by simp[csRg1]) fun x hx hf=>?_;obtain ⟨⟨(a1:Int),(a2:List DStop),(a3:List DLeg),(a4:List Int)⟩,⟨(b1:Int),(b2:List DStop),(b3:List DLeg),(b4:List Int)⟩,_⟩:=x;dsimp only[entRg1,x63];simp only[↓hcsRg1,undef,go_sem];try rfl
def entRg2:Ent:=⟨65,.cons Z2 (.cons Z32 .nil),.bool,false,none,fun _=>True,fun x=>decide ((x.1:DStop).1∈(x.2.1:List Int))⟩
def csRg2:List Ent:=[entHasI] theorem hcsRg2 (f:FuncId):findEnt csRg2 f=findEnt [entHasI] f:=rfl
theorem conRg2:Con Tryz.prog entRg2:=by
 refine con_is (C:=csRg2) x65 (by kernel_rfl) (by simp[csRg2,conHasI]) fun x hx hf=>?_;obtain ⟨⟨(n:Int),(b:Bool)⟩,(o:List Int),_⟩:=x;dsimp only[entRg2,x65];simp only[↓hcsRg2,entHasI,undef,go_sem]
def entRgt:Ent:=⟨31,.cons Z21 (.cons Z23 (.cons Z1 (.cons Z5 .nil))),.bool,false,none,fun x=>(List.length (α:=DPlan) x.2.1≤1000∧List.length (α:=Int) x.2.2.2.1≤1000)∧∀p∈(x.2.1:List DPlan),p.2.1.length≤24,fun x=>rightR38 x.1 x.2.1 x.2.2.1 x.2.2.2.1⟩
def csRgt:List Ent:=[entPlR,entCkP,entConFuncPl,entRg1,entConFuncStp,entRg2,entHasI] theorem hcsRgt (f:FuncId):findEnt csRgt f=findEnt [entPlR,entCkP,entConFuncPl,entRg1,entConFuncStp,entRg2,entHasI] f:=rfl
set_option maxHeartbeats 1000000 in
theorem conRgt:Con Tryz.prog entRgt:=by
 refine con_is (C:=csRgt) x31 (by kernel_rfl) (by simp[csRgt,conPlR,conCkP,conConFuncPl,conRg1,conConFuncStp,conRg2,conHasI]) fun x hx hf=>?_;obtain ⟨⟨(N:Int),(A:List DArc),(C:List DCar),(Q:List DReq),(P:List DPair),(S1:Int),(S2:Int),(S3:Int)⟩,(ps:List DPlan),(b:Int),(o:List Int),_⟩:=x;obtain ⟨⟨hl,ho⟩,hx⟩:(ps.length≤1000∧o.length≤1000)∧∀p∈ps,p.2.1.length≤24:=hx;have hno:=fun h=>rightR_no (w:=(N,A,C,Q,P,S1,S2,S3)) (ps:=ps) (b:=b) (o:=o) h;have hyes:=fun h=>rightR_yes (w:=(N,A,C,Q,P,S1,S2,S3)) (ps:=ps) (b:=b) (o:=o) h;dsimp only[entRgt,x31];cases h1:rightP (N,A,C,Q,P,S1,S2,S3) with
 |false=>
  have hF:=hno fun z=>by rw[z.1] at h1;cases h1
  simp only[↓hcsRgt,entPlR,entCkP,entConFuncPl,entRg1,entConFuncStp,entRg2,entHasI,undef,h1,hF,go_sem];try simp only[h1,hF,td,reduceCtorEq]
 |true=>
 by_cases h2:b<0
 ·have hF:=hno fun z=>by have:=z.2.1;omega
  simp only[↓hcsRgt,entPlR,entCkP,entConFuncPl,entRg1,entConFuncStp,entRg2,entHasI,undef,h1,h2,hF,go_sem];try simp only[h1,h2,hF,td,reduceCtorEq]
 by_cases h3:(C.length:Int)≤b
 ·have hF:=hno fun z=>by have:=z.2.2.1;dsimp only at this;omega
  have h3':b≥(C.length:Int):=h3;simp only[↓hcsRgt,entPlR,entCkP,entConFuncPl,entRg1,entConFuncStp,entRg2,entHasI,undef,h1,h2,h3,h3',hF,go_sem];try simp only[h1,h2,h3,h3',hF,td,reduceCtorEq]
 have h3':¬b≥(C.length:Int):=h3;simp only[↓hcsRgt,entPlR,entCkP,entConFuncPl,entRg1,entConFuncStp,entRg2,entHasI,undef,h1,h2,h3,h3',go_sem];try simp only[h1,h2,h3,h3',td,reduceCtorEq]
 refine XW_for 1000 x31_0d [0,1] Nat (fun j=>[(31,.val Z1 (j:Int))]) (fun _=>[]) (fun j=>j≤ps.length∧GoodR (N,A,C,Q,P,S1,S2,S3) ps b o j) (fun j=>ps.length-j) 0 ?_ ?_ ?_
 ·dsimp only[x31_0d];simp only[go_sem];first|done|exact ⟨rfl,rfl⟩|rfl|trivial
 ·exact ⟨Nat.zero_le _,fun j hj=>absurd hj (Nat.not_lt_zero _)⟩
 rintro j ⟨hj,hg⟩;dsimp only[x31_0,x31_0d];by_cases hj':j<ps.length
 case neg=>
  obtain rfl:j=ps.length:=by omega
  simp only[↓hcsRgt,entPlR,entCkP,entConFuncPl,entRg1,entConFuncStp,entRg2,entHasI,undef,hj',go_sem];try simp only[hj',td,reduceCtorEq]
  refine XW_for 2000 x31_1d [0,1] Nat (fun k=>[(64,.val Z1 (k:Int))]) (fun _=>[]) (fun k=>k≤o.length∧OrdR (N,A,C,Q,P,S1,S2,S3) o k) (fun k=>o.length-k) 0 ?_ ?_ ?_
  ·dsimp only[x31_1d];simp only[go_sem];first|done|exact ⟨rfl,rfl⟩|rfl|trivial
  ·exact ⟨Nat.zero_le _,fun j hj=>absurd hj (Nat.not_lt_zero _)⟩
  rintro k ⟨hk,hd⟩;dsimp only[x31_1,x31_1d];by_cases hk':k<o.length
  case neg=>
   obtain rfl:k=o.length:=by omega
   have hF:=hyes ⟨h1,by omega,by show b<(C.length:Int);omega,hg,hd⟩;simp only[↓hcsRgt,entPlR,entCkP,entConFuncPl,entRg1,entConFuncStp,entRg2,entHasI,undef,hk',hF,go_sem];try simp only[hk',hF,td,reduceCtorEq]
  have wk:IntKind.i64.wrap ((k:Int)+1)=((k+1:Nat):Int):=i64_in _ (by omega);have hkle:(k:Int)≤(o.length:Int):=by omega
  have h00:(0:Int)≤0:=Int.le_refl _;have hnx:=fun a b c=>hd.next a b c;have hbad:=fun (z:¬((0≤o.getD k 0∧o.getD k 0<(Q.length:Int))∧o.getD k 0∉o.take k))=>hno fun y=>z (y.2.2.2.2 k hk');obtain ⟨q,hq⟩:∃q,o.getD k 0=q:=⟨_,rfl⟩;rw[hq] at hnx hbad;by_cases c1:q<0
  ·have hF:=hbad fun z=>by omega
   simp only[↓hcsRgt,entPlR,entCkP,entConFuncPl,entRg1,entConFuncStp,entRg2,entHasI,undef,hk',hq,c1,hF,go_sem];try simp only[hk',hq,c1,hF,td,reduceCtorEq]
  by_cases c2:(Q.length:Int)≤q
  ·have hF:=hbad fun z=>by omega
   have c2':q≥(Q.length:Int):=c2;simp only[↓hcsRgt,entPlR,entCkP,entConFuncPl,entRg1,entConFuncStp,entRg2,entHasI,undef,hk',hq,c1,c2,c2',hF,go_sem];try simp only[hk',hq,c1,c2,c2',hF,td,reduceCtorEq]
  have c2':¬q≥(Q.length:Int):=c2;by_cases c3:q∈o.take k
  ·have hF:=hbad fun z=>z.2 c3;simp only[↓hcsRgt,entPlR,entCkP,entConFuncPl,entRg1,entConFuncStp,entRg2,entHasI,undef,hk',hkle,h00,hq,c1,c2,c2',c3,hF,go_sem];try simp only[hk',hkle,h00,hq,c1,c2,c2',c3,hF,td,reduceCtorEq]
  ·simp only[↓hcsRgt,entPlR,entCkP,entConFuncPl,entRg1,entConFuncStp,entRg2,entHasI,undef,hk',hkle,h00,hq,c1,c2,c2',c3,wk,go_sem];try simp only[hk',hkle,h00,hq,c1,c2,c2',c3,wk,td,reduceCtorEq]
   refine ⟨k+1,by omega,⟨by omega,hnx (by omega) (by show q<(Q.length:Int);omega) c3⟩,rfl⟩
 have w1:IntKind.i64.wrap ((j:Int)+1)=((j+1:Nat):Int):=i64_in _ (by omega);have hjle:(j:Int)≤(ps.length:Int):=by omega
 have h00:(0:Int)≤0:=Int.le_refl _;have hm:=hx (ps.getD j dPln) (by simp[List.getD,hj']);have hnx:=fun a b c=>hg.next a b c;have hbad:=fun (z:¬((checkP (N,A,C,Q,P,S1,S2,S3) (ps.getD j dPln)=0∧∀i,i<j→(ps.getD i dPln).1≠(ps.getD j dPln).1)∧((ps.getD j dPln).1≠b→∀s∈(ps.getD j dPln).2.1,s.1∉o)))=>hno fun y=>z (y.2.2.2.1 j hj');dsimp only[dPln] at hm hnx hbad;obtain ⟨⟨c,ss,L,G⟩,hP⟩:∃p:DPlan,ps.getD j (0,[],[],[])=p:=⟨_,rfl⟩;rw[hP] at hm hnx hbad;dsimp only at hm hnx hbad;have htw:(ps.take j).any (fun x:DPlan=>decide (x.1=c))=true↔ ∃i,i<j∧(ps.getD i (0,[],[],[])).1=c:=by
  rw[List.any_eq_true];constructor
  ·rintro ⟨p,hp,e⟩;obtain ⟨i,hi,rfl⟩:=List.getElem_of_mem hp;rw[List.length_take] at hi;refine ⟨i,by omega,?_⟩;rw[List.getElem_take] at e;simpa [List.getD,show i<ps.length by omega] using e
  ·rintro ⟨i,hi,e⟩;refine ⟨ps.getD i (0,[],[],[]),?_,decide_eq_true e⟩;rw[show ps.getD i (0,[],[],[])=(ps.take j)[i]'(by rw[List.length_take];omega) by rw[List.getElem_take];simp[List.getD,show i<ps.length by omega]];exact List.getElem_mem _
 have hnm:ss.any (fun x:DStop=>decide (x.1∈o))=true↔ ∃s∈ss,s.1∈o:=by
  rw[List.any_eq_true];exact ⟨fun ⟨s,h1,h2⟩=>⟨s,h1,of_decide_eq_true h2⟩,fun ⟨s,h1,h2⟩=>⟨s,h1,decide_eq_true h2⟩⟩
 obtain ⟨tw,hT⟩:∃t,(ps.take j).any (fun x:DPlan=>decide (x.1=c))=t:=⟨_,rfl⟩;obtain ⟨nm,hM⟩:∃t,ss.any (fun x:DStop=>decide (x.1∈o))=t:=⟨_,rfl⟩;rw[hT] at htw;rw[hM] at hnm;cases tw with
 |true=>
  obtain ⟨i,hi,e⟩:=htw.1 rfl;have hF:=hbad fun z=>z.1.2 i hi e;by_cases hcb:c=b
  ·subst hcb;simp only[↓hcsRgt,entPlR,entCkP,entConFuncPl,entRg1,entConFuncStp,entRg2,entHasI,undef,hj',hjle,h00,hP,hT,hM,hF,go_sem];try simp only[hj',hjle,h00,hP,hT,hM,hF,td,reduceCtorEq]
  ·simp only[↓hcsRgt,entPlR,entCkP,entConFuncPl,entRg1,entConFuncStp,entRg2,entHasI,undef,hj',hjle,h00,hP,hT,hM,hcb,hF,go_sem];try simp only[hj',hjle,h00,hP,hT,hM,hcb,hF,td,reduceCtorEq]
 |false=>
 have ht0:∀i,i<j→(ps.getD i (0,[],[],[])).1≠c:=fun i hi e=>by have:=htw.2 ⟨i,hi,e⟩;cases this
 by_cases hcb:c=b
 ·by_cases hck:checkP (N,A,C,Q,P,S1,S2,S3) (c,ss,L,G)=0
  ·have hN:=hnx hck ht0 fun z=>absurd hcb z;subst hcb;simp only[↓hcsRgt,entPlR,entCkP,entConFuncPl,entRg1,entConFuncStp,entRg2,entHasI,undef,hj',hjle,h00,hP,hT,hck,hm,w1,go_sem];try simp only[hj',hjle,h00,hP,hT,hck,hm,w1,td,reduceCtorEq]
   exact ⟨j+1,by omega,⟨by omega,hN⟩,rfl⟩
  ·have hF:=hbad fun z=>hck z.1.1;subst hcb;simp only[↓hcsRgt,entPlR,entCkP,entConFuncPl,entRg1,entConFuncStp,entRg2,entHasI,undef,hj',hjle,h00,hP,hT,hck,hm,hF,go_sem];try simp only[hj',hjle,h00,hP,hT,hck,hm,hF,td,reduceCtorEq]
 cases nm with
 |true=>
  obtain ⟨s,hs,e⟩:=hnm.1 rfl;have hF:=hbad fun z=>z.2 hcb s hs e;simp only[↓hcsRgt,entPlR,entCkP,entConFuncPl,entRg1,entConFuncStp,entRg2,entHasI,undef,hj',hjle,h00,hP,hT,hM,hcb,hF,go_sem];try simp only[hj',hjle,h00,hP,hT,hM,hcb,hF,td,reduceCtorEq]
 |false=>
 have hn0:∀s∈ss,s.1∉o:=fun s hs e=>by have:=hnm.2 ⟨s,hs,e⟩;cases this
 by_cases hck:checkP (N,A,C,Q,P,S1,S2,S3) (c,ss,L,G)=0
 ·have hN:=hnx hck ht0 fun _=>hn0;simp only[↓hcsRgt,entPlR,entCkP,entConFuncPl,entRg1,entConFuncStp,entRg2,entHasI,undef,hj',hjle,h00,hP,hT,hM,hcb,hck,hm,w1,go_sem];try simp only[hj',hjle,h00,hP,hT,hM,hcb,hck,hm,w1,td,reduceCtorEq]
  exact ⟨j+1,by omega,⟨by omega,hN⟩,rfl⟩
 ·have hF:=hbad fun z=>hck z.1.1;simp only[↓hcsRgt,entPlR,entCkP,entConFuncPl,entRg1,entConFuncStp,entRg2,entHasI,undef,hj',hjle,h00,hP,hT,hM,hcb,hck,hm,hF,go_sem];try simp only[hj',hjle,h00,hP,hT,hM,hcb,hck,hm,hF,td,reduceCtorEq]
end T
end Go.Proofs.YtpocfbfmjippnaaGreat
end
