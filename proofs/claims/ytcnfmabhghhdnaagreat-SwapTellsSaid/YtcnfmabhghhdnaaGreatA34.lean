/- Parts of the proof of the law; no condition. -/
import Derived.Test.YtcnfmabhghhdnaaGreatA33
set_option linter.all false
section
namespace Go.Proofs.YtcnfmabhghhdnaaGreat
open Go.RowKit Go.IntWalk
namespace T
theorem mget_mset2 {α:Type} {z:α}:∀{H:List (Int×α)} {i j:Int} {v:α},mget z (mset H i v) j=if i=j then v else mget z H j
 |[],i,j,v=>rfl
 |p::r,i,j,v=>by
  unfold mset;by_cases h:p.1=i
  ·rw[if_pos h];unfold mget;by_cases c:i=j
   ·rw[if_pos c,if_pos c]
   ·rw[if_neg c,if_neg c,if_neg (by rw[h];exact c)]
  ·rw[if_neg h];unfold mget;rw[mget_mset2];by_cases c:p.1=j
   ·rw[if_pos c,if_neg (by rw[←c];exact fun q=>h q.symm),if_pos c]
   ·rw[if_neg c,if_neg c]
theorem mhas_mset2 {α:Type}:∀{H:List (Int×α)} {i j:Int} {v:α},mhas (mset H i v) j=if i=j then true else mhas H j
 |[],i,j,v=>by unfold mset mhas;rfl
 |p::r,i,j,v=>by
  unfold mset;by_cases h:p.1=i
  ·rw[if_pos h];unfold mhas;by_cases c:i=j
   ·rw[if_pos c,if_pos c]
   ·rw[if_neg c,if_neg c,if_neg (by rw[h];exact c)]
  ·rw[if_neg h];unfold mhas;rw[mhas_mset2];by_cases c:p.1=j
   ·rw[if_pos c,if_neg (by rw[←c];exact fun q=>h q.symm),if_pos c]
   ·rw[if_neg c,if_neg c]
structure OwnM (ps:List DPlan) (j k:Nat) (M:List (Int×Int)):Prop where
 has:∀r,mhas M r=true↔(∃i,i<j∧∃s∈(ps.getD i dPlan).2.1,s.1=r)∨∃s∈(ps.getD j dPlan).2.1.take k,s.1=r
 old:∀i,i<j→∀s∈(ps.getD i dPlan).2.1,mget 0 M s.1=(i:Int)
 own:∀s∈(ps.getD j dPlan).2.1.take k,mget 0 M s.1=(j:Int)∧∀i,i<j→∀s'∈(ps.getD i dPlan).2.1,s'.1≠s.1
theorem OwnM.zero (ps:List DPlan):OwnM ps 0 0 []:=⟨fun r=>by simp[mhas],fun i hi=>absurd hi (Nat.not_lt_zero _),fun s hs=>by simp at hs⟩
theorem OwnM.next {ps:List DPlan} {j:Nat} {M:List (Int×Int)} (h:OwnM ps j (ps.getD j dPlan).2.1.length M):OwnM ps (j+1) 0 M∧∀i,i<j→apartB (ps.getD i dPlan) (ps.getD j dPlan)=true:=by
 have e:(ps.getD j dPlan).2.1.take (ps.getD j dPlan).2.1.length=(ps.getD j dPlan).2.1:=List.take_length;refine ⟨⟨fun r=>?_,fun i hi s hs=>?_,fun s hs=>by simp at hs⟩,fun i hi=>apart_mk fun s hs t ht=>?_⟩
 ·rw[h.has,e];constructor
  ·rintro (⟨i,hi,q⟩|q)
   ·exact .inl ⟨i,by omega,q⟩
   ·exact .inl ⟨j,by omega,q⟩
  ·rintro (⟨i,hi,q⟩|⟨s,hs,_⟩)
   ·by_cases c:i=j
    ·subst c;exact .inr q
    ·exact .inl ⟨i,by omega,q⟩
   ·simp at hs
 ·by_cases c:i=j
  ·subst c;exact (h.own s (by rw[e];exact hs)).1
  ·exact h.old i (by omega) s hs
 ·exact (h.own t (by rw[e];exact ht)).2 i hi s hs
theorem OwnM.step {ps:List DPlan} {j k:Nat} {M:List (Int×Int)} (h:OwnM ps j k M) (hk:k<(ps.getD j dPlan).2.1.length) {r:Int} (hr:((ps.getD j dPlan).2.1.getD k dStop).1=r):
  (mhas M r=true∧mget 0 M r≠(j:Int)→∃i,i<j∧apartB (ps.getD i dPlan) (ps.getD j dPlan)=false)∧((mhas M r=true→mget 0 M r=(j:Int))→OwnM ps j (k+1) (mset M r (j:Int))):=by
 have hmem:=getD_memS hk
 refine ⟨fun ⟨h1,h2⟩=>?_,fun h1=>?_⟩
 ·rcases (h.has r).1 h1 with ⟨i,hi,s,hs,e⟩|⟨s,hs,e⟩
  ·refine ⟨i,hi,?_⟩
   rw[←Bool.not_eq_true]
   exact fun q=>apart_ne q hs hmem (e.trans hr.symm)
  ·exact absurd (e▸(h.own s hs).1) h2
 ·have hno:∀i,i<j→∀s'∈(ps.getD i dPlan).2.1,s'.1≠r:=fun i hi s' hs' e=>by
   have:=h1 ((h.has r).2 (.inl ⟨i,hi,s',hs',e⟩));rw[←e,h.old i hi s' hs'] at this;omega
  have tk:∀s,s∈(ps.getD j dPlan).2.1.take (k+1)↔s∈(ps.getD j dPlan).2.1.take k∨s=(ps.getD j dPlan).2.1.getD k dStop:=fun s=>by rw[take_next hk,List.mem_append,List.mem_singleton]
  refine ⟨fun q=>?_,fun i hi s hs=>?_,fun s hs=>?_⟩
  ·rw[mhas_mset2]
   by_cases c:r=q
   ·rw[if_pos c]
    exact ⟨fun _=>.inr ⟨_,(tk _).2 (.inr rfl),hr.trans c⟩,fun _=>rfl⟩
   ·rw[if_neg c,h.has]
    constructor
    ·rintro (q|⟨s,hs,e⟩)
     ·exact .inl q
     ·exact .inr ⟨s,(tk s).2 (.inl hs),e⟩
    ·rintro (q|⟨s,hs,e⟩)
     ·exact .inl q
     ·rcases (tk s).1 hs with hs|rfl
      ·exact .inr ⟨s,hs,e⟩
      ·exact absurd (hr.symm.trans e) c
  ·rw[mget_mset2,if_neg (fun e=>hno i hi s hs e.symm)]
   exact h.old i hi s hs
  ·rw[mget_mset2]
   rcases (tk s).1 hs with hs|rfl
   ·refine ⟨?_,(h.own s hs).2⟩
    by_cases c:r=s.1
    ·rw[if_pos c]
    ·rw[if_neg c];exact (h.own s hs).1
   ·exact ⟨if_pos hr.symm,fun i hi s' hs'=>by rw[hr];exact hno i hi s' hs'⟩
def GoodTo (w:DWorld) (ps:List DPlan) (n:Nat):Prop:=∀j,j<n→((ps.getD j dPlan).1=(j:Int)∧checkP w (ps.getD j dPlan)=0)∧∀i,i<j→apartB (ps.getD i dPlan) (ps.getD j dPlan)=true
theorem rightPs_yes {w:DWorld} {ps:List DPlan} (h:GoodTo w ps ps.length):rightPs w ps=(rightP w&&decide ((ps.length:Int)=(w.2.2.1.length:Int))):=by
 rw[Bool.eq_iff_iff,rightPs_iff,Bool.and_eq_true,decide_eq_true_eq];exact ⟨fun q=>⟨q.1,by rw[q.2.1]⟩,fun q=>⟨q.1,Int.ofNat_inj.1 q.2,h⟩⟩
theorem rightPs_no {w:DWorld} {ps:List DPlan} {j:Nat} (hj:j<ps.length) (h:(ps.getD j dPlan).1≠(j:Int)∨checkP w (ps.getD j dPlan)≠0∨∃i,i<j∧apartB (ps.getD i dPlan) (ps.getD j dPlan)=false):rightPs w ps=false:=by
 rw[←Bool.not_eq_true,rightPs_iff];intro q;obtain ⟨⟨q1,q2⟩,q3⟩:=q.2.2 j hj;rcases h with h|h|⟨i,hi,h⟩
 ·exact h q1
 ·exact h q2
 ·rw[q3 i hi] at h;cases h
def entSwR:Ent:=⟨27,.cons Z24 (.cons Z22 .nil),.bool,false,none,fun x=>∀p∈(x.2.1:List DPlan),p.2.1.length≤24,fun x=>rightPs x.1 x.2.1⟩
def csSwR:List Ent:=[entCkP,entPlR] theorem hcsSwR (f:FuncId):findEnt csSwR f=findEnt [entCkP,entPlR] f:=rfl
theorem conSwR:Con Tryz.prog entSwR:=by
 refine con_is (C:=csSwR) x27 (by kernel_rfl) (by simp[csSwR,conCkP,conPlR]) fun x hx hf=>?_;obtain ⟨⟨(N:Int),(A:List DArc),(C:List DCar),(Q:List DReq),(P:List DPair),(S1:Int),(S2:Int),(S3:Int)⟩,(ps:List DPlan),_⟩:=x;replace hx:∀p∈ps,p.2.1.length≤24:=hx;have hl:ps.length≤9223372036854775807:=hf.2.1.1;dsimp only[entSwR,x27,Z1,Z23,Z24,Za,Zb,Ze,Zg];simp only[↓hcsSwR,entCkP,entPlR,undef,go_sem];try simp only[td,reduceCtorEq]
 have hi:=rightPs_iff (w:=(N,A,C,Q,P,S1,S2,S3)) (ps:=ps);have hY:=rightPs_yes (w:=(N,A,C,Q,P,S1,S2,S3)) (ps:=ps);have hNo:=fun j hj=>rightPs_no (w:=(N,A,C,Q,P,S1,S2,S3)) (ps:=ps) (j:=j) hj;dsimp only at hY;refine XW_for 1000 x27_0d [0] (Nat×List (Int×Int)) (fun s=>[(15,.val Z1 (s.1:Int)),(5,.own 2)]) (fun s=>[(2,.mp .i64 (.int .i64) s.2)]) (fun s=>s.1≤ps.length∧GoodTo (N,A,C,Q,P,S1,S2,S3) ps s.1∧OwnM ps s.1 0 s.2) (fun s=>ps.length-s.1) (0,[]) ?_ ?_ ?_
 ·dsimp only[x27_0d];simp only[go_sem];try exact ⟨rfl,rfl⟩
  try rfl
 ·exact ⟨Nat.zero_le _,fun j hj=>absurd hj (Nat.not_lt_zero _),OwnM.zero ps⟩
 rintro ⟨j,M⟩ ⟨hj,hg,ho⟩;dsimp only at hj hg ho;dsimp only[x27_0,x27_0d,Z1,Z12,Z13,Z24,Za,Zb,Zc,Zd,Zg];by_cases hj':j<ps.length
 case neg=>
  obtain rfl:j=ps.length:=by omega
  have hF:=hY hg;cases hrp:rightP (N,A,C,Q,P,S1,S2,S3) with
  |false=>
   rw[hrp,Bool.false_and] at hF;simp only[↓hcsSwR,entCkP,entPlR,undef,hj',hF,hrp,go_sem];try simp only[hj',hF,hrp,td,reduceCtorEq]
  |true=>
   rw[hrp,Bool.true_and] at hF;simp only[↓hcsSwR,entCkP,entPlR,undef,hj',hF,hrp,go_sem];try simp only[hj',hF,hrp,td,reduceCtorEq]
   rw[Bool.eq_iff_iff,beq_iff_eq,decide_eq_true_eq];exact Int.ofNat_inj
 have w2:IntKind.i64.wrap ((j:Int)+1)=((j+1:Nat):Int):=i64_in _ (by omega);have hN:=hNo j hj';have hb:=hx (ps.getD j dPlan) (by simp[List.getD,hj']);have hGn:(ps.getD j dPlan).1=(j:Int)→checkP (N,A,C,Q,P,S1,S2,S3) (ps.getD j dPlan)=0→(∀i,i<j→apartB (ps.getD i dPlan) (ps.getD j dPlan)=true)→GoodTo (N,A,C,Q,P,S1,S2,S3) ps (j+1):=fun a b c k hk=>by
  by_cases q:k=j
  ·subst q;exact ⟨⟨a,b⟩,c⟩
  ·exact hg k (by omega)
 have hst:=fun k M (h:OwnM ps j k M)=>h.step;have hnx:=fun M (h:OwnM ps j (ps.getD j dPlan).2.1.length M)=>h.next;clear hg hNo hY hi;dsimp only[dPlan,dStop] at hN hGn hb hst hnx;generalize hPj:ps.getD j (0,[],[],[])=pj at hN hGn hb hst hnx;obtain ⟨c,ss,L,G⟩:=pj;dsimp only at hN hGn hb hst hnx;by_cases c1:c=(j:Int)
 case neg=>
  have hF:=hN (.inl c1);simp only[↓hcsSwR,entCkP,entPlR,undef,hj',hb,hPj,c1,hF,go_sem];try simp only[hj',hb,hPj,c1,hF,td,reduceCtorEq]
 by_cases c2:checkP (N,A,C,Q,P,S1,S2,S3) (c,ss,L,G)=0
 case neg=>
  have hF:=hN (.inr (.inl c2));subst c1;simp only[↓hcsSwR,entCkP,entPlR,undef,hj',hb,hPj,c2,hF,go_sem];try simp only[hj',hb,hPj,c2,hF,td,reduceCtorEq]
 replace hGn:=hGn c1 c2;subst c1;simp only[↓hcsSwR,entCkP,entPlR,undef,hj',hb,hPj,c2,go_sem];try simp only[hj',hb,hPj,c2,td,reduceCtorEq]
 refine XW_for 2000 x27_1d [0,1004] (Nat×List (Int×Int)) (fun s=>[(33,.val Z1 (s.1:Int)),(5,.own 2)]) (fun s=>[(2,.mp .i64 (.int .i64) s.2)]) (fun s=>s.1≤ss.length∧OwnM ps j s.1 s.2) (fun s=>ss.length-s.1) (0,M) ?_ ?_ ?_
 ·dsimp only[x27_1d];simp only[go_sem];try exact ⟨rfl,rfl⟩
  try rfl
 ·exact ⟨Nat.zero_le _,ho⟩
 rintro ⟨k,K⟩ ⟨hk,hoK⟩;dsimp only at hk hoK;dsimp only[x27_1,x27_1d,Z1,Z8,Za,Zb,Zc,Zd,Zg];by_cases hk':k<ss.length
 ·have wk:IntKind.i64.wrap ((k:Int)+1)=((k+1:Nat):Int):=i64_in _ (by omega);obtain ⟨⟨r,u⟩,hS⟩:∃s:DStop,ss.getD k (0,false)=s:=⟨_,rfl⟩;obtain ⟨s1,s2⟩:=hst k K hoK hk' (r:=r) (by rw[hS]);cases hm:mhas K r with
  |false=>
   have s3:=s2 fun q=>by rw[hm] at q;cases q
   simp only[↓hcsSwR,entCkP,entPlR,undef,hk',wk,hS,hm,go_sem];try simp only[hk',wk,hS,hm,td,reduceCtorEq]
   exact ⟨(k+1,mset K r (j:Int)),by dsimp only;omega,⟨hk',s3⟩,rfl,rfl⟩
  |true=>
   by_cases hg:mget 0 K r=(j:Int)
   ·have s3:=s2 fun _=>hg;simp only[↓hcsSwR,entCkP,entPlR,undef,hk',wk,hS,hm,hg,go_sem];try simp only[hk',wk,hS,hm,hg,td,reduceCtorEq]
    exact ⟨(k+1,mset K r (j:Int)),by dsimp only;omega,⟨hk',s3⟩,rfl,rfl⟩
   ·have hF:=hN (.inr (.inr (s1 ⟨hm,hg⟩)));simp only[↓hcsSwR,entCkP,entPlR,undef,hk',wk,hS,hm,hg,hF,go_sem];try simp only[hk',wk,hS,hm,hg,hF,td,reduceCtorEq]
 ·obtain rfl:k=ss.length:=by omega
  obtain ⟨n1,n2⟩:=hnx K hoK;simp only[↓hcsSwR,entCkP,entPlR,undef,hk',w2,go_sem];try simp only[hk',w2,td,reduceCtorEq]
  exact ⟨(j+1,K),by dsimp only;omega,⟨hj',hGn n2,n1⟩,rfl,rfl⟩
end T
end Go.Proofs.YtcnfmabhghhdnaaGreat
end
