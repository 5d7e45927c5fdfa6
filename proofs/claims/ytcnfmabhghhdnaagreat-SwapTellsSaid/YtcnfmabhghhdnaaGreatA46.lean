/- Parts of the proof of the law; no condition. -/
import Derived.Test.YtcnfmabhghhdnaaGreatA35
import Derived.Test.YtcnfmabhghhdnaaGreatA38
import Derived.Test.YtcnfmabhghhdnaaGreatA39
set_option linter.all false
section
namespace Go.Proofs.YtcnfmabhghhdnaaGreat
open Go.RowKit Go.IntWalk
namespace T
def entMvR:Ent:=⟨30,.cons Z24 (.cons Z22 (.cons Z21 .nil)),.cons Z22 (.cons Z1 .nil),true,none,fun x=>List.length (α:=DPlan) x.2.1≤1000∧∀p∈(x.2.1:List DPlan),p.2.1.length≤900,fun x=>((movedF x.1 x.2.1 x.2.2.1).1,(movedF x.1 x.2.1 x.2.2.1).2,())⟩
def csMvR:List Ent:=[entAt23,entWot23,entWth23,entMkR] theorem hcsMvR (f:FuncId):findEnt csMvR f=findEnt [entAt23,entWot23,entWth23,entMkR] f:=rfl
set_option maxHeartbeats 8000000 in
theorem conMvR:Con Tryz.prog entMvR:=by
 refine con_is (C:=csMvR) x30 (by kernel_rfl) (by simp[csMvR,conAt23,conWot23,conWth23,conMkR]) fun x hx hf=>?_;obtain ⟨⟨(N:Int),(A:List DArc),(C:List DCar),(Q:List DReq),(P:List DPair),(S1:Int),(S2:Int),(S3:Int)⟩,(ps:List DPlan),⟨(r:Int),(f:Int),(t:Int),(p:Int),(d:Int)⟩,_⟩:=x;obtain ⟨hl,hb⟩:ps.length≤1000∧∀p∈ps,p.2.1.length≤900:=hx;have hs:∀i,i<ps.length→(ps.getD i dPlan).2.1.length≤900:=fun i hi=>hb _ (by simp[List.getD,hi]);have b80:((0:Nat)+ps.length)*80≤140737488355328:=by omega
 dsimp only[entMvR,x30,Z1,Z12,Z13,Z24,Za,Zb,Zc,Zd,Ze,Zf,Zg];by_cases b1:badM ps (r,f,t,p,d)
 ·have hF:movedF (N,A,C,Q,P,S1,S2,S3) ps (r,f,t,p,d)=([],4):=by unfold movedF movedG;rw[if_pos b1]
  unfold badM at b1;dsimp only at b1;by_cases h1:f<0
  ·simp only[↓hcsMvR,entAt23,entWot23,entWth23,entMkR,undef,hF,h1,go_sem];try simp only[hF,h1,td,reduceCtorEq]
  obtain ⟨f,rfl⟩:∃z:Nat,f=z:=⟨f.toNat,by omega⟩;by_cases h2:(ps.length:Int)≤f
  ·have h2':(f:Int)≥(ps.length:Int):=h2;simp only[↓hcsMvR,entAt23,entWot23,entWth23,entMkR,undef,hF,h1,h2,h2',go_sem];try simp only[hF,h1,h2,h2',td,reduceCtorEq]
  have h2':¬(f:Int)≥(ps.length:Int):=h2;by_cases h3:t<0
  ·simp only[↓hcsMvR,entAt23,entWot23,entWth23,entMkR,undef,hF,h1,h2,h2',h3,go_sem];try simp only[hF,h1,h2,h2',h3,td,reduceCtorEq]
  by_cases h4:(ps.length:Int)≤t
  ·have h4':t≥(ps.length:Int):=h4;simp only[↓hcsMvR,entAt23,entWot23,entWth23,entMkR,undef,hF,h1,h2,h2',h3,h4,h4',go_sem];try simp only[hF,h1,h2,h2',h3,h4,h4',td,reduceCtorEq]
  have h4':¬t≥(ps.length:Int):=h4;have h5:¬(r,true)∈(ps.getD f dPlan).2.1:=by
   rw[planAt_nat] at b1;rcases b1 with q|q|q|q|q
   ·exact absurd q h1
   ·exact absurd q h2
   ·exact absurd q h3
   ·exact absurd q h4
   ·exact q
  replace h5:atF (r,true) (ps.getD f dPlan).2.1<0:=Int.not_le.1 fun q=>h5 (at_mem.1 q);dsimp only[dPlan] at h5;have hfl:f<ps.length:=by omega
  simp only[↓hcsMvR,entAt23,entWot23,entWth23,entMkR,undef,hF,h1,h2,h2',h3,h4,h4',h5,hfl,go_sem];try simp only[hF,h1,h2,h2',h3,h4,h4',h5,hfl,td,reduceCtorEq]
 unfold badM at b1;dsimp only at b1;have h1:¬f<0:=fun q=>b1 (.inl q);have h2:¬(ps.length:Int)≤f:=fun q=>b1 (.inr (.inl q));have h3:¬t<0:=fun q=>b1 (.inr (.inr (.inl q)));have h4:¬(ps.length:Int)≤t:=fun q=>b1 (.inr (.inr (.inr (.inl q))));have h5:(r,true)∈(planAt ps f).2.1:=Classical.byContradiction fun q=>b1 (.inr (.inr (.inr (.inr q))));have b0:¬badM ps (r,f,t,p,d):=b1;clear b1;obtain ⟨f,rfl⟩:∃z:Nat,f=z:=⟨f.toNat,by omega⟩;obtain ⟨t,rfl⟩:∃z:Nat,t=z:=⟨t.toNat,by omega⟩;rw[planAt_nat] at h5;replace h5:¬atF (r,true) (ps.getD f dPlan).2.1<0:=Int.not_lt.2 (at_mem.2 h5);have h2':¬(f:Int)≥(ps.length:Int):=h2;have h4':¬(t:Int)≥(ps.length:Int):=h4;have hfl:f<ps.length:=by omega
 have htl:t<ps.length:=by omega
 have hM:movedF (N,A,C,Q,P,S1,S2,S3) ps (r,(f:Int),(t:Int),p,d)=if offM ps (r,(f:Int),(t:Int),p,d) then ([],3)
  else if (makeF (N,A,C,Q,P,S1,S2,S3) t (stopsI (outS (ps.getD t dPlan).2.1 r) r p d)).2≠0 then ([],(makeF (N,A,C,Q,P,S1,S2,S3) t (stopsI (outS (ps.getD t dPlan).2.1 r) r p d)).2)
  else if f=t then (ps.set t (makeF (N,A,C,Q,P,S1,S2,S3) t (stopsI (outS (ps.getD t dPlan).2.1 r) r p d)).1,0)
  else if (makeF (N,A,C,Q,P,S1,S2,S3) f (outS (ps.getD f dPlan).2.1 r)).2≠0 then ([],(makeF (N,A,C,Q,P,S1,S2,S3) f (outS (ps.getD f dPlan).2.1 r)).2)
  else ((ps.set t (makeF (N,A,C,Q,P,S1,S2,S3) t (stopsI (outS (ps.getD t dPlan).2.1 r) r p d)).1).set f (makeF (N,A,C,Q,P,S1,S2,S3) f (outS (ps.getD f dPlan).2.1 r)).1,0):=by
  unfold movedF movedG toS
  dsimp only
  rw[if_neg b0,planAt_nat,planAt_nat]
  by_cases c:f=t
  ·rw[if_pos (show ((f:Int)=(t:Int)) by omega),if_pos c,Int.toNat_natCast]
  ·rw[if_neg (show¬((f:Int)=(t:Int)) by omega),if_neg c,Int.toNat_natCast,Int.toNat_natCast]
 have hof:offM ps (r,(f:Int),(t:Int),p,d)↔p<0∨d<p∨((outS (ps.getD t dPlan).2.1 r).length:Int)<d:=by
  unfold offM toS;dsimp only;rw[planAt_nat]
 have hfs:=hs f hfl;have hts:=hs t htl;have hol:=outS_len (ps.getD t dPlan).2.1 r;have hol2:=outS_len (ps.getD f dPlan).2.1 r;have hsl:=stopsI_len (outS (ps.getD t dPlan).2.1 r) r p d;clear b0 hs;dsimp only[dPlan] at h5 hM hof hfs hts hol hol2 hsl;obtain ⟨O,hO⟩:∃O,outS (ps.getD t (0,[],[],[])).2.1 r=O:=⟨_,rfl⟩;obtain ⟨O2,hO2⟩:∃O,outS (ps.getD f (0,[],[],[])).2.1 r=O:=⟨_,rfl⟩;have l0:(ps.getD f (0,[],[],[])).2.1.length≤1000000:=by omega
 rw[hO] at hM hof hol hsl;rw[hO2] at hM hol2;have l5:(ps.getD t (0,[],[],[])).2.1.length≤1000000:=by omega
 have l1:O.length≤1000:=by omega
 have l2:O.length≤1000:=by omega
 have l3:O2.length≤1000:=by omega
 have l4:ps.length≤1000000:=by omega
 by_cases c:f=t
 ·subst c;obtain rfl:O=O2:=hO.symm.trans hO2;rw[if_pos rfl] at hM;by_cases o1:p<0
  ·rw[if_pos (hof.2 (.inl o1))] at hM;simp only[↓hcsMvR,entAt23,entWot23,entWth23,entMkR,undef,hM,hO,b80,List.length_set,h1,h2,h2',h3,h4,h4',h5,hfl,htl,l0,l1,l2,l3,l4,l5,o1,go_sem];try simp only[hM,hO,b80,List.length_set,h1,h2,h2',h3,h4,h4',h5,hfl,htl,l0,l1,l2,l3,l4,l5,o1,td,reduceCtorEq]
  by_cases o2:d<p
  ·rw[if_pos (hof.2 (.inr (.inl o2)))] at hM;simp only[↓hcsMvR,entAt23,entWot23,entWth23,entMkR,undef,hM,hO,b80,List.length_set,h1,h2,h2',h3,h4,h4',h5,hfl,htl,l0,l1,l2,l3,l4,l5,o1,o2,go_sem];try simp only[hM,hO,b80,List.length_set,h1,h2,h2',h3,h4,h4',h5,hfl,htl,l0,l1,l2,l3,l4,l5,o1,o2,td,reduceCtorEq]
  by_cases o3:d>(O.length:Int)
  ·have o3':(O.length:Int)<d:=o3;rw[if_pos (hof.2 (.inr (.inr o3)))] at hM;simp only[↓hcsMvR,entAt23,entWot23,entWth23,entMkR,undef,hM,hO,b80,List.length_set,h1,h2,h2',h3,h4,h4',h5,hfl,htl,l0,l1,l2,l3,l4,l5,o1,o2,o3,o3',go_sem];try simp only[hM,hO,b80,List.length_set,h1,h2,h2',h3,h4,h4',h5,hfl,htl,l0,l1,l2,l3,l4,l5,o1,o2,o3,o3',td,reduceCtorEq]
  have o3':¬(O.length:Int)<d:=o3;have p1:0≤p:=by omega
  have p2:p≤d:=by omega
  have p3:d≤(O.length:Int):=by omega
  rw[if_neg (fun q=>by rcases hof.1 q with q|q|q;exact o1 q;exact o2 q;exact o3 q)] at hM;obtain ⟨⟨⟨x1,x2,x3,x4⟩,e⟩,hX⟩:∃X:DPlan×Int,makeF (N,A,C,Q,P,S1,S2,S3) (f:Int) (stopsI O r p d)=X:=⟨_,rfl⟩;rw[hX] at hM;dsimp only at hM;by_cases e0:e=0
  ·subst e0;rw[if_neg (by decide)] at hM;simp only[↓hcsMvR,entAt23,entWot23,entWth23,entMkR,undef,hM,hO,b80,List.length_set,h1,h2,h2',h3,h4,h4',h5,hfl,htl,l0,l1,l2,l3,l4,l5,o1,o2,o3,o3',p1,p2,p3,hX,go_sem];try simp only[hM,hO,b80,List.length_set,h1,h2,h2',h3,h4,h4',h5,hfl,htl,l0,l1,l2,l3,l4,l5,o1,o2,o3,o3',p1,p2,p3,hX,td,reduceCtorEq]
  ·rw[if_pos e0] at hM;simp only[↓hcsMvR,entAt23,entWot23,entWth23,entMkR,undef,hM,hO,b80,List.length_set,h1,h2,h2',h3,h4,h4',h5,hfl,htl,l0,l1,l2,l3,l4,l5,o1,o2,o3,o3',p1,p2,p3,hX,e0,go_sem];try simp only[hM,hO,b80,List.length_set,h1,h2,h2',h3,h4,h4',h5,hfl,htl,l0,l1,l2,l3,l4,l5,o1,o2,o3,o3',p1,p2,p3,hX,e0,td,reduceCtorEq]
 ·have ci:¬((f:Int)=(t:Int)):=by omega
  rw[if_neg c] at hM;by_cases o1:p<0
  ·rw[if_pos (hof.2 (.inl o1))] at hM;simp only[↓hcsMvR,entAt23,entWot23,entWth23,entMkR,undef,hM,hO,hO2,c,ci,b80,List.length_set,h1,h2,h2',h3,h4,h4',h5,hfl,htl,l0,l1,l2,l3,l4,l5,o1,go_sem];try simp only[hM,hO,hO2,c,ci,b80,List.length_set,h1,h2,h2',h3,h4,h4',h5,hfl,htl,l0,l1,l2,l3,l4,l5,o1,td,reduceCtorEq]
  by_cases o2:d<p
  ·rw[if_pos (hof.2 (.inr (.inl o2)))] at hM;simp only[↓hcsMvR,entAt23,entWot23,entWth23,entMkR,undef,hM,hO,hO2,c,ci,b80,List.length_set,h1,h2,h2',h3,h4,h4',h5,hfl,htl,l0,l1,l2,l3,l4,l5,o1,o2,go_sem];try simp only[hM,hO,hO2,c,ci,b80,List.length_set,h1,h2,h2',h3,h4,h4',h5,hfl,htl,l0,l1,l2,l3,l4,l5,o1,o2,td,reduceCtorEq]
  by_cases o3:d>(O.length:Int)
  ·have o3':(O.length:Int)<d:=o3;rw[if_pos (hof.2 (.inr (.inr o3)))] at hM;simp only[↓hcsMvR,entAt23,entWot23,entWth23,entMkR,undef,hM,hO,hO2,c,ci,b80,List.length_set,h1,h2,h2',h3,h4,h4',h5,hfl,htl,l0,l1,l2,l3,l4,l5,o1,o2,o3,o3',go_sem];try simp only[hM,hO,hO2,c,ci,b80,List.length_set,h1,h2,h2',h3,h4,h4',h5,hfl,htl,l0,l1,l2,l3,l4,l5,o1,o2,o3,o3',td,reduceCtorEq]
  have o3':¬(O.length:Int)<d:=o3;have p1:0≤p:=by omega
  have p2:p≤d:=by omega
  have p3:d≤(O.length:Int):=by omega
  rw[if_neg (fun q=>by rcases hof.1 q with q|q|q;exact o1 q;exact o2 q;exact o3 q)] at hM;obtain ⟨⟨⟨x1,x2,x3,x4⟩,e⟩,hX⟩:∃X:DPlan×Int,makeF (N,A,C,Q,P,S1,S2,S3) (t:Int) (stopsI O r p d)=X:=⟨_,rfl⟩;rw[hX] at hM;dsimp only at hM;by_cases e0:e=0
  ·subst e0;rw[if_neg (by decide)] at hM;obtain ⟨⟨⟨y1,y2,y3,y4⟩,e⟩,hY⟩:∃X:DPlan×Int,makeF (N,A,C,Q,P,S1,S2,S3) (f:Int) O2=X:=⟨_,rfl⟩;rw[hY] at hM;dsimp only at hM;by_cases e0:e=0
   ·subst e0;rw[if_neg (by decide)] at hM;simp only[↓hcsMvR,entAt23,entWot23,entWth23,entMkR,undef,hM,hO,hO2,c,ci,b80,List.length_set,h1,h2,h2',h3,h4,h4',h5,hfl,htl,l0,l1,l2,l3,l4,l5,o1,o2,o3,o3',p1,p2,p3,hX,hY,go_sem];try simp only[hM,hO,hO2,c,ci,b80,List.length_set,h1,h2,h2',h3,h4,h4',h5,hfl,htl,l0,l1,l2,l3,l4,l5,o1,o2,o3,o3',p1,p2,p3,hX,hY,td,reduceCtorEq]
   ·rw[if_pos e0] at hM;simp only[↓hcsMvR,entAt23,entWot23,entWth23,entMkR,undef,hM,hO,hO2,c,ci,b80,List.length_set,h1,h2,h2',h3,h4,h4',h5,hfl,htl,l0,l1,l2,l3,l4,l5,o1,o2,o3,o3',p1,p2,p3,hX,hY,e0,go_sem];try simp only[hM,hO,hO2,c,ci,b80,List.length_set,h1,h2,h2',h3,h4,h4',h5,hfl,htl,l0,l1,l2,l3,l4,l5,o1,o2,o3,o3',p1,p2,p3,hX,hY,e0,td,reduceCtorEq]
  ·rw[if_pos e0] at hM;simp only[↓hcsMvR,entAt23,entWot23,entWth23,entMkR,undef,hM,hO,hO2,c,ci,b80,List.length_set,h1,h2,h2',h3,h4,h4',h5,hfl,htl,l0,l1,l2,l3,l4,l5,o1,o2,o3,o3',p1,p2,p3,hX,e0,go_sem];try simp only[hM,hO,hO2,c,ci,b80,List.length_set,h1,h2,h2',h3,h4,h4',h5,hfl,htl,l0,l1,l2,l3,l4,l5,o1,o2,o3,o3',p1,p2,p3,hX,e0,td,reduceCtorEq]
end T
end Go.Proofs.YtcnfmabhghhdnaaGreat
end
