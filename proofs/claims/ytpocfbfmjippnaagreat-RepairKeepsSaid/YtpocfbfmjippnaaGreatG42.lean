/- Parts of the proof of the law; no condition. -/
import Derived.Test.YtpocfbfmjippnaaGreatG41
set_option linter.all false
section
namespace Go.Proofs.YtpocfbfmjippnaaGreat
open Go.RowKit Go.IntWalk
namespace T
set_option pp.deepTerms true
set_option pp.maxSteps 1000000
def entOf38:Ent:=⟨10,.cons Z21 .nil,Z21,false,none,fun _=>True,fun x=>x.1⟩
def csOf38:List Ent:=[] theorem hcsOf38 (f:FuncId):findEnt csOf38 f=findEnt [] f:=rfl
theorem conOf38:Con Tryz.prog entOf38:=by
 refine con_is (C:=csOf38) x10 (by kernel_rfl) (by simp[csOf38]) fun x hx hf=>?_;obtain ⟨⟨(N:Int),(A:List DArc),(C:List DCar),(Q:List DReq),(P:List DPair),(S1:Int),(S2:Int),(S3:Int)⟩,_⟩:=x;dsimp only[entOf38,x10];simp only[↓hcsOf38,undef,go_sem];try simp only[td,reduceCtorEq]
def entEds:Ent:=⟨20,.cons Z21 (.cons Z23 .nil),(.int .i64),false,none,fun x=>List.length (α:=DPlan) x.2.1≤1000∧∀p∈(x.2.1:List DPlan),p.2.1.length≤24,fun x=>endsR x.1 x.2.1⟩
def csEds:List Ent:=[entEnd] theorem hcsEds (f:FuncId):findEnt csEds f=findEnt [entEnd] f:=rfl
theorem conEds:Con Tryz.prog entEds:=by
 refine con_is (C:=csEds) x20 (by kernel_rfl) (by simp[csEds,conEnd]) fun x hx hf=>?_;obtain ⟨⟨(N:Int),(A:List DArc),(C:List DCar),(Q:List DReq),(P:List DPair),(S1:Int),(S2:Int),(S3:Int)⟩,(ps:List DPlan),_⟩:=x;obtain ⟨hl,hp⟩:ps.length≤1000∧∀p∈ps,p.2.1.length≤24:=hx;dsimp only[entEds,x20];simp only[↓hcsEds,entEnd,undef,go_sem];try simp only[td,reduceCtorEq]
 refine XW_for 1000 x20_0d [0] Nat (fun i=>[(6,.val Z1 (i:Int)),(5,.val Z1 (endsR (N,A,C,Q,P,S1,S2,S3) (ps.take i)))]) (fun _=>[]) (fun i=>i≤ps.length) (fun i=>ps.length-i) 0 ?_ ?_ ?_
 ·dsimp only[x20_0d];simp only[go_sem];first|done|exact ⟨rfl,rfl⟩|rfl
 ·exact Nat.zero_le _
 intro i hi;dsimp only[x20_0,x20_0d];by_cases hi':i<ps.length
 case pos=>
  have wi:IntKind.i64.wrap ((i:Int)+1)=((i+1:Nat):Int):=i64_in _ (by omega);have he1:=endsR_at (w:=(N,A,C,Q,P,S1,S2,S3)) hi';have he2:=endsR_rng (N,A,C,Q,P,S1,S2,S3) (ps.take (i+1));rw[List.length_take] at he2;have h24:=hp (ps.getD i dPln) (by simp[List.getD,hi']);dsimp only[dPln] at he1 h24;obtain ⟨⟨pc,pss,pL,pG⟩,hPi⟩:∃p:DPlan,ps.getD i (0,[],[],[])=p:=⟨_,rfl⟩;rw[hPi] at he1 h24;dsimp only at h24;have we:IntKind.i64.wrap (endsR (N,A,C,Q,P,S1,S2,S3) (ps.take i)+(endP (N,A,C,Q,P,S1,S2,S3) (pc,pss,pL,pG)).1)=endsR (N,A,C,Q,P,S1,S2,S3) (ps.take (i+1)):=by
   rw[←he1];exact i64_in _ (by omega)
  simp only[↓hcsEds,entEnd,undef,hi',hPi,h24,wi,we,go_sem];try simp only[hi',hPi,h24,wi,we,td,reduceCtorEq]
  exact ⟨i+1,by omega,hi',rfl,rfl⟩
 obtain rfl:i=ps.length:=by omega
 simp only[↓hcsEds,entEnd,undef,hi',List.take_length,go_sem];try simp only[hi',List.take_length,td,reduceCtorEq]
def plyF (w:DWorld) (r:List DPlan×Int):Int×Int×Unit:=(if r.2<0 then endsR w r.1 else 0,r.2,())
def entPyd:Ent:=⟨24,.cons Z21 (.cons Z23 (.cons Z5 (.cons Z5 .nil))),.cons Z1 (.cons Z1 .nil),true,none,entPy8.pre,fun x=>plyF x.1 (playR x.1 x.2.1 x.2.2.1 x.2.2.2.1 0)⟩
def csPyd:List Ent:=[entBst,entEds] theorem hcsPyd (f:FuncId):findEnt csPyd f=findEnt [entBst,entEds] f:=rfl
set_option maxHeartbeats 4000000 in
theorem conPyd:Con Tryz.prog entPyd:=by
 refine con_is (C:=csPyd) x24 (by kernel_rfl) (by simp[csPyd,conBst,conEds]) fun x hx hf=>?_;obtain ⟨⟨(N:Int),(A:List DArc),(C:List DCar),(Q:List DReq),(P:List DPair),(S1:Int),(S2:Int),(S3:Int)⟩,(ps:List DPlan),(o:List Int),(to:List Int),_⟩:=x;obtain ⟨⟨h1,h2,h3⟩,h4,h5⟩:(ps.length≤1000∧o.length≤2∧to.length=o.length)∧(∀p∈ps,p.2.1.length≤16)∧∀t∈to,t<(ps.length:Int):=hx;have hb:(ps.length+0)*80≤140737488355328:=by omega
 dsimp only[entPyd,entPy8,x24];simp only[↓hcsPyd,entBst,entEds,undef,h1,go_sem];try simp only[h1,td,reduceCtorEq]
 refine ⟨by omega,?_⟩;refine XW_for 1000 x24_0d [0] (Nat×List DPlan) (fun s=>[(11,.val Z1 (s.1:Int)),(10,.own 5)]) (fun s=>[(5,.row 65 Z22 s.2)]) (fun s=>s.1≤o.length∧s.2.length=ps.length∧(∀p∈s.2,p.2.1.length≤16+2*s.1)∧playR (N,A,C,Q,P,S1,S2,S3) ps o to 0=playR (N,A,C,Q,P,S1,S2,S3) s.2 (o.drop s.1) (to.drop s.1) (s.1:Int)) (fun s=>o.length-s.1) (0,ps) ?_ ?_ ?_
 ·dsimp only[x24_0d];simp only[go_sem];first|done|exact ⟨rfl,rfl⟩|rfl
 ·exact ⟨Nat.zero_le _,rfl,h4,rfl⟩
 rintro ⟨j,R⟩ ⟨hj,hR,hp,hI⟩;dsimp only at hj hR hp hI;dsimp only[x24_0,x24_0d];by_cases hj':j<o.length
 case neg=>
  obtain rfl:j=o.length:=by omega
  have hI':playR (N,A,C,Q,P,S1,S2,S3) ps o to 0=(R,-1):=by rw[hI,List.drop_length,playR];intro q o' t to' h;cases h
  have hRl:R.length≤1000:=by omega
  have hR24:∀p∈R,p.2.1.length≤24:=fun p h=>Nat.le_trans (hp p h) (by omega);simp only[↓hcsPyd,entBst,entEds,undef,hj',hI',hRl,hR24,plyF,go_sem];try simp only[hj',hI',hRl,hR24,plyF,td,reduceCtorEq]
  all_goals first|done|exact hR24|exact ⟨hR24,rfl⟩
 have hjt:j<to.length:=by omega
 have wj:IntKind.i64.wrap ((j:Int)+1)=((j+1:Nat):Int):=i64_in _ (by omega);have hdo:o.drop j=o.getD j 0::o.drop (j+1):=by rw[List.drop_eq_getElem_cons hj'];simp[List.getD,hj']
 have hdt:to.drop j=to.getD j 0::to.drop (j+1):=by rw[List.drop_eq_getElem_cons hjt];simp[List.getD,hjt]
 rw[hdo,hdt,playR_cons] at hI;have hpw:∀p∈R,p.2.1.length≤16+2*(j+1):=fun p h=>Nat.le_trans (hp p h) (by omega);by_cases ht:to.getD j 0<0
 ·rw[if_pos ht] at hI;simp only[↓hcsPyd,entBst,entEds,undef,hj',hjt,ht,wj,go_sem];try simp only[hj',hjt,ht,wj,td,reduceCtorEq]
  exact ⟨(j+1,R),by dsimp only;omega,⟨hj',hR,hpw,hI⟩,rfl,rfl⟩
 rw[if_neg ht] at hI;obtain ⟨n,hn⟩:∃n:Nat,to.getD j 0=(n:Int):=⟨(to.getD j 0).toNat,by omega⟩;have hnR:n<R.length:=by
  have:=h5 (to.getD j 0) (by simp[List.getD,hjt]);omega
 rw[hn,Int.toNat_natCast] at hI;have hn0:¬(n:Int)<0:=by omega
 obtain ⟨q,hq⟩:∃q,o.getD j 0=q:=⟨_,rfl⟩;rw[hq] at hI;have hbl:=bst_len (w:=(N,A,C,Q,P,S1,S2,S3)) (p:=R.getD n dPln) (q:=q);have hpk:=hp (R.getD n dPln) (by simp[List.getD,hnR]);dsimp only[dPln] at hpk hI hbl;obtain ⟨⟨c,ss,L,G⟩,hP⟩:∃p:DPlan,R.getD n (0,[],[],[])=p:=⟨_,rfl⟩;rw[hP] at hpk hI hbl;dsimp only at hpk;have hp20:ss.length≤20:=by omega
 unfold bstP at hI hbl;obtain ⟨⟨⟨x1,x2,x3,x4⟩,y1,y2,y3,e⟩,hB⟩:∃X:DPlan×Int×Int×List DPlace×Int,bestF (N,A,C,Q,P,S1,S2,S3) (c,ss,L,G) q=X:=⟨_,rfl⟩;rw[hB] at hI hbl;dsimp only at hI hbl;have hjn:¬(j:Int)<0:=by omega
 by_cases he:e=0
 case neg=>
  rw[if_pos he] at hI;simp only[↓hcsPyd,entBst,entEds,undef,hj',hjt,hn,hn0,hq,hnR,hP,hp20,hB,he,wj,hI,hjn,plyF,go_sem];try simp only[hj',hjt,hn,hn0,hq,hnR,hP,hp20,hB,he,wj,hI,hjn,plyF,td,reduceCtorEq]
 subst he;rw[if_neg (by decide)] at hI;simp only[↓hcsPyd,entBst,entEds,undef,hj',hjt,hn,hn0,hq,hnR,hP,hp20,hB,wj,go_sem];try simp only[hj',hjt,hn,hn0,hq,hnR,hP,hp20,hB,wj,td,reduceCtorEq]
 have hx2:x2.length=ss.length+2:=(hbl rfl).1;refine ⟨(j+1,R.set n (x1,x2,x3,x4)),by dsimp only;omega,⟨hj',by dsimp only;rw[List.length_set];exact hR,fun p h=>?_,hI⟩,rfl,rfl⟩;rcases List.mem_or_eq_of_mem_set h with h|rfl
 ·exact hpw p h
 ·show x2.length≤16+2*(j+1);omega
end T
end Go.Proofs.YtpocfbfmjippnaaGreat
end
