/- Parts of the proof of the law; no condition. -/
import Derived.Test.YtcnfmabhghhdnaaGreatA51
import Derived.Test.YtcnfmabhghhdnaaGreatA54
set_option linter.all false
section
namespace Go.Proofs.YtcnfmabhghhdnaaGreat
open Go.RowKit Go.IntWalk
namespace T
def entTells23:Ent:=⟨3,.cons Z24 (.cons Z22 (.cons Z21 .nil)),.bool,false,none,fun _=>True,fun _=>true⟩
def csTells23:List Ent:=[entSmall23,entFw23,entWld,entSTy,entRTy,entSSm,entRSm,entImp,entImR,entSm23,entSMv] theorem hcsTells23 (f:FuncId):findEnt csTells23 f=findEnt [entSmall23,entFw23,entWld,entSTy,entRTy,entSSm,entRSm,entImp,entImR,entSm23,entSMv] f:=rfl
set_option maxHeartbeats 4000000 in
theorem conTells23:Con Tryz.prog entTells23:=by
 refine con_is (C:=csTells23) x3 (by kernel_rfl) (by simp[csTells23,conSmall23,conFw23,conWld,conSTy,conRTy,conSSm,conRSm,conImp,conImR,conSm23,conSMv]) fun x _ hf=>?_;obtain ⟨(w:DWorld),(ps:List DPlan),(m:DMove),_⟩:=x;dsimp only[entTells23,x3,Z21,Z24,Za,Zb,Zc,Zd,Ze,Zg];cases h0:few23 w ps
 ·simp only[↓hcsTells23,entSmall23,entFw23,entWld,entSTy,entRTy,entSSm,entRSm,entImp,entImR,entSm23,entSMv,undef,h0,go_sem];try simp only[h0,td,reduceCtorEq]
 obtain ⟨f0,f1,f2⟩:=few23_iff.1 h0;have hq:w.2.2.2.1.length≤10:=by omega
 have hl:ps.length≤1000:=by omega
 have h1:∀p∈ps,p.2.1.length≤24∧p.2.2.1.length≤1000000∧p.2.2.2.length≤1000000:=fun p hp=>by have:=f2 p hp;omega
 have h2:∀p∈ps,p.2.1.length≤24:=fun p hp=>(h1 p hp).1;simp only[↓hcsTells23,entSmall23,entFw23,entWld,entSTy,entRTy,entSSm,entRSm,entImp,entImR,entSm23,entSMv,undef,h0,hq,hl,h1,h2,go_sem];try simp only[h0,hq,hl,h1,h2,td,reduceCtorEq]
 all_goals (repeat' apply And.intro)<;>first|exact h1|exact h2|rfl
end T
end Go.Proofs.YtcnfmabhghhdnaaGreat
end
