/- Parts of the proof of the law; no condition. -/
import Derived.Test.YtpocfbfmjippnaaGreatG42
import Derived.Test.YtpocfbfmjippnaaGreatG46
import Derived.Test.YtpocfbfmjippnaaGreatG47
set_option linter.all false
section
namespace Go.Proofs.YtpocfbfmjippnaaGreat
open Go.RowKit Go.IntWalk
namespace T
set_option pp.deepTerms true
set_option pp.maxSteps 1000000
def entKp8:Ent:=⟨5,.cons Z21 (.cons Z23 (.cons Z1 (.cons Z5 .nil))),.bool,false,none,fun _=>True,fun _=>true⟩
def csKp8:List Ent:=[entSml8,entFew8,entOf38,entBsX,entHlR,entIn38,entCkP] theorem hcsKp8 (f:FuncId):findEnt csKp8 f=findEnt [entSml8,entFew8,entOf38,entBsX,entHlR,entIn38,entCkP] f:=rfl
set_option maxHeartbeats 8000000 in
theorem conKp8 (hB:Con Tryz.prog entBsX):Con Tryz.prog entKp8:=by
 refine con_is (C:=csKp8) x5 (by kernel_rfl) (by simp[csKp8,conSml8 hB,conFew8,conOf38,hB,conHlR,conIn38,conCkP]) fun x _ hf=>?_;obtain ⟨⟨(N:Int),(A:List DArc),(C:List DCar),(Q:List DReq),(P:List DPair),(S1:Int),(S2:Int),(S3:Int)⟩,(ps:List DPlan),(b:Int),(o:List Int),_⟩:=x;dsimp only[entKp8,x5];cases h0:few8 (N,A,C,Q,P,S1,S2,S3) ps o []
 ·simp only[↓hcsKp8,entSml8,entFew8,entOf38,entBsX,entHlR,entIn38,entCkP,undef,h0,go_sem];try simp only[h0,td,reduceCtorEq]
 obtain ⟨⟨_,f1,f2,f3,f4⟩,f5,_⟩:FewR8 (N,A,C,Q,P,S1,S2,S3) ps o []:=of_decide_eq_true h0;have p1:ps.length≤1000:=by omega
 have p2:o.length≤1000:=by omega
 have p5:∀p∈ps,p.2.1.length≤4:=fun p hp=>by
  obtain ⟨i,hi,rfl⟩:=mem_at dPln hp;exact (f5 i hi).1
 have p4:∀p∈ps,p.2.1.length≤16:=fun p hp=>Nat.le_trans (p5 p hp) (by decide);obtain ⟨⟨a1,a2,a3,a4⟩,hR⟩:∃r,bestR (N,A,C,Q,P,S1,S2,S3) ps b o=r:=⟨_,rfl⟩;by_cases h4:a4=0
 case neg=>
  simp only[↓hcsKp8,entSml8,entFew8,entOf38,entBsX,entHlR,entIn38,entCkP,undef,h0,p1,p2,f2,p4,hR,h4,go_sem];try simp only[h0,p1,p2,f2,p4,hR,h4,td,reduceCtorEq]
  all_goals first|done|exact p4
 subst h4;obtain ⟨h4,x,F,hx⟩:o.length≤4∧∃x F,Rep8 (N,A,C,Q,P,S1,S2,S3) ps b o x F:=by
  rcases best_cases (w:=(N,A,C,Q,P,S1,S2,S3)) (b:=b) (o:=o) p5 with h|h
  ·exfalso;rcases h with h|h<;> · rw[hR] at h;exact absurd (congrArg (fun r=>r.2.2.2) h) (by simp)
  ·exact h
 have ho2:o.length≤2:=by omega
 have e:=hx.is;rw[hR] at e;obtain rfl:a1=x.2.1:=congrArg (fun r=>r.1) e;obtain rfl:a2=lostF o x.1:=congrArg (fun r=>r.2.1) e;obtain ⟨hL,hT,hN⟩:=hx.left;have hd:=hx.dist;have hpk:=fun {k:Nat} (h:k<o.length)=>hL.picks hx.lens.1 hd hT h;have hml:=fun {i:Nat} (h:i<o.length)=>mem_lostF (b:=x.1) hd h;have hll:=lostF_len hx.lens.1;obtain ⟨hl1,hl2⟩:=hx.lens;have hfi:∀p∈x.2.1,p.2.1.length≤24:=fun p hp=>Nat.le_trans (hx.fine p hp).2 (by omega);have h3:=hx.few;have hhp:∀p∈helpF ps b,p.2.1.length≤4:=fun p hp=>p5 p (mem_helpF.1 hp).1;clear e;obtain ⟨af,hAf⟩:∃af,x.2.1=af:=⟨_,rfl⟩;rw[hAf] at hR hL hN hl2 hfi hpk;obtain ⟨hs,hH⟩:∃hs,helpF ps b=hs:=⟨_,rfl⟩;rw[hH] at hL hT hN hl2 h3 hhp;obtain ⟨lo,hLo⟩:∃lo,lostF o x.1=lo:=⟨_,rfl⟩;rw[hLo] at hR hml hll;have hll':(af.length:Int)=(hs.length:Int):=by omega
 simp only[↓hcsKp8,entSml8,entFew8,entOf38,entBsX,entHlR,entIn38,entCkP,undef,h0,p1,p2,f2,p4,hR,hH,hll',go_sem];try simp only[h0,p1,p2,f2,p4,hR,hH,hll',td,reduceCtorEq]
 refine ⟨p4,?_⟩;have hal:af.length≤3:=by omega
 have hsA:=fun k=>lenS_bnd (c:=24) (l:=af.take k) fun p hp=>hfi p (List.mem_of_mem_take hp);have hsH:=fun k=>lenS_bnd (c:=4) (l:=hs.take k) fun p hp=>hhp p (List.mem_of_mem_take hp);have hA3:∀k,((af.take k).length:Int)≤3:=fun k=>by rw[List.length_take];omega
 have hH3:∀k,((hs.take k).length:Int)≤3:=fun k=>by rw[List.length_take];omega
 refine XW_for 1000 x5_0d [0] Nat (fun i=>[(16,.val Z1 (i:Int)),(15,.val Z1 (lenS (af.take i)-lenS (hs.take i)))]) (fun _=>[]) (fun i=>i≤af.length) (fun i=>af.length-i) 0 ?_ ?_ ?_
 ·dsimp only[x5_0d];simp only[show lenS (af.take 0)-lenS (hs.take 0)=0 from rfl,go_sem];first|done|exact ⟨rfl,rfl⟩|rfl
 ·exact Nat.zero_le _
 intro i hi;dsimp only[x5_0,x5_0d];by_cases hi':i<af.length
 case pos=>
  have w1:IntKind.i64.wrap ((i:Int)+1)=((i+1:Nat):Int):=i64_in _ (by omega);have hih:i<hs.length:=by omega
  have hcar:=hL.car i hih;have hgood:=hL.good i hih;have hrest:=hL.rest i hih;have hhas:=hL.has i hih;have h24:=hfi (af.getD i dPln) (by simp[List.getD,hi']);have hnA:=lenS_take af hi';have hnH:=lenS_take hs hih;have bA:=hsA i;have bH:=hsH i;have cA:=hA3 i;have cH:=hH3 i;have h4H:=hhp (hs.getD i dPln) (by simp[List.getD,hih]);dsimp only[dPln] at hcar hgood hrest hhas h24 hnA hnH h4H;obtain ⟨⟨pc,S,L,G⟩,hPA⟩:∃p:DPlan,af.getD i (0,[],[],[])=p:=⟨_,rfl⟩;obtain ⟨⟨pc',S',L',G'⟩,hPH⟩:∃p:DPlan,hs.getD i (0,[],[],[])=p:=⟨_,rfl⟩;rw[hPA] at hcar hgood hrest hhas h24 hnA;rw[hPH] at hcar hrest hnH h4H;dsimp only at hcar hrest hhas h24 hnA hnH h4H;subst hcar;obtain ⟨base,hbase⟩:∃z,lenS (af.take i)-lenS (hs.take i)=z:=⟨_,rfl⟩;obtain ⟨ct,hct⟩:∃ct:Nat→Nat,∀m,ct m=((S.take m).filter fun s=>decide (s.1∉o)).length:=⟨_,fun _=>rfl⟩;obtain ⟨bs,hbs⟩:∃bs:Nat→Int,∀m,bs m=base+(m:Int)-(ct m:Int):=⟨_,fun _=>rfl⟩;have hcle:∀m,ct m≤m:=fun m=>by
   rw[hct];exact Nat.le_trans (List.length_filter_le _ _) (List.length_take_le _ _)
  have hc0:ct 0=0:=by rw[hct];rfl
  have hb0:bs 0=base:=by rw[hbs,hc0];omega
  have hfa:=fun {m:Nat} (h:m<S.length)=>fil_at (fun s:DStop=>decide (s.1∉o)) dStop S h;simp only[hrest,←hct] at hfa;simp only[↓hcsKp8,entSml8,entFew8,entOf38,entBsX,entHlR,entIn38,entCkP,undef,hi',hih,hPA,hPH,h24,hgood,hbase,go_sem];try simp only[hi',hih,hPA,hPH,h24,hgood,hbase,td,reduceCtorEq]
  refine XW_for 2000 x5_1d [0] Nat (fun m=>[(18,.val Z1 (m:Int)),(17,.val Z1 (ct m:Int)),(15,.val Z1 (bs m))]) (fun _=>[]) (fun m=>m≤S.length) (fun m=>S.length-m) 0 ?_ ?_ ?_
  ·dsimp only[x5_1d];simp only[hc0,hb0,go_sem];first|done|exact ⟨rfl,rfl⟩|rfl
  ·exact Nat.zero_le _
  intro m hm;dsimp only[x5_1,x5_1d];by_cases hm':m<S.length
  case neg=>
   obtain rfl:m=S.length:=by omega
   have hce:ct S.length=S'.length:=by rw[hct,List.take_length,hrest]
   have hcei:((ct S.length:Nat):Int)=(S'.length:Int):=by omega
   have hbe:bs S.length=lenS (af.take (i+1))-lenS (hs.take (i+1)):=by rw[hbs,hce];omega
   simp only[↓hcsKp8,entSml8,entFew8,entOf38,entBsX,entHlR,entIn38,entCkP,undef,hi',hih,hPA,hPH,hm',hcei,hbe,w1,go_sem];try simp only[hi',hih,hPA,hPH,hm',hcei,hbe,w1,td,reduceCtorEq]
   exact ⟨i+1,by omega,by omega,rfl,rfl⟩
  have w2:IntKind.i64.wrap ((m:Int)+1)=((m+1:Nat):Int):=i64_in _ (by omega);have hcm:=hcle m;obtain ⟨f1,f2⟩:=hfa hm';have hsm:S.getD m dStop∈S:=by simp[List.getD,hm']
  dsimp only[dStop] at f1 f2 hsm;obtain ⟨⟨q,pk⟩,hq⟩:∃s:DStop,S.getD m (0,false)=s:=⟨_,rfl⟩;rw[hq] at f1 f2 hsm;dsimp only at f1 f2;by_cases hqo:q∈o
  ·have f2:=f2 (decide_eq_false fun z=>z hqo);have hql:¬q∈lo:=fun z=>by
    obtain ⟨k,hk,e1,e2⟩:=hhas _ hsm hqo;have e1:o.getD k 0=q:=e1;rw[←e1,hml hk] at z;omega
   have hb1:IntKind.i64.wrap (bs m+1)=bs (m+1):=by
    rw[hbs,hbs,f2];rw[show base+((m+1:Nat):Int)-(ct m:Int)=base+(m:Int)-(ct m:Int)+1 by omega];exact i64_in _ (by omega)
   have hc1:ct (m+1)=ct m:=f2;simp only[↓hcsKp8,entSml8,entFew8,entOf38,entBsX,entHlR,entIn38,entCkP,undef,hi',hih,hPA,hPH,hm',hq,hqo,hql,hb1,w2,go_sem];try simp only[hi',hih,hPA,hPH,hm',hq,hqo,hql,hb1,w2,td,reduceCtorEq]
   first
    |exact ⟨m+1,by omega,by omega,rfl,by rw[hc1],rfl⟩
    |exact fun _=>⟨m+1,by omega,by omega,rfl,by rw[hc1],rfl⟩
  ·obtain ⟨g1,g2,g3⟩:=f1 (decide_eq_true hqo);have wc:IntKind.i64.wrap ((ct m:Int)+1)=((ct (m+1):Nat):Int):=by rw[g3];exact i64_in _ (by omega)
   have hb1:bs (m+1)=bs m:=by rw[hbs,hbs,g3];omega
   have g1':(ct m:Int)<(S'.length:Int):=by omega
   simp only[↓hcsKp8,entSml8,entFew8,entOf38,entBsX,entHlR,entIn38,entCkP,undef,hi',hih,hPA,hPH,hm',hq,hqo,g1,g1',g2,wc,w2,go_sem];try simp only[hi',hih,hPA,hPH,hm',hq,hqo,g1,g1',g2,wc,w2,td,reduceCtorEq]
   first
    |exact ⟨m+1,by omega,by omega,rfl,rfl,hb1.symm⟩
 obtain rfl:i=af.length:=by omega
 have hfin:lenS (af.take af.length)-lenS (hs.take af.length)=IntKind.i64.wrap (2*IntKind.i64.wrap ((o.length:Int)-(lo.length:Int))):=by
  rw[List.take_length,hl2,List.take_length];have:=lost_rng x.1;rw[i64_in ((o.length:Int)-(lo.length:Int)) (by omega),i64_in _ (by omega)];omega
 obtain ⟨tot,htot⟩:∃z,lenS (af.take af.length)-lenS (hs.take af.length)=z:=⟨_,rfl⟩;rw[htot] at hfin⊢;simp only[↓hcsKp8,entSml8,entFew8,entOf38,entBsX,entHlR,entIn38,entCkP,undef,hi',go_sem];try simp only[hi',td,reduceCtorEq]
 refine XW_for 1000 x5_2d [0] Nat (fun i=>[(20,.val Z1 (i:Int))]) (fun _=>[]) (fun i=>i≤o.length) (fun i=>o.length-i) 0 ?_ ?_ ?_
 ·dsimp only[x5_2d];simp only[go_sem];first|done|exact ⟨rfl,rfl⟩|rfl
 ·exact Nat.zero_le _
 clear hi hi';intro i hi;dsimp only[x5_2,x5_2d];by_cases hi':i<o.length
 case neg=>
  obtain rfl:i=o.length:=by omega
  simp only[↓hcsKp8,entSml8,entFew8,entOf38,entBsX,entHlR,entIn38,entCkP,undef,hi',←hfin,go_sem];try simp only[hi',←hfin,td,reduceCtorEq]
 have w1:IntKind.i64.wrap ((i:Int)+1)=((i+1:Nat):Int):=i64_in _ (by omega);have hp:=hpk hi';have hm:=hml hi';obtain ⟨q,hq⟩:∃q,o.getD i 0=q:=⟨_,rfl⟩;rw[hq] at hp hm;simp only[↓hcsKp8,entSml8,entFew8,entOf38,entBsX,entHlR,entIn38,entCkP,undef,hi',go_sem];try simp only[hi',td,reduceCtorEq]
 refine XW_for 2000 x5_3d [0] Nat (fun k=>[(22,.val Z1 (k:Int)),(21,.val Z1 ((pkQ q (af.take k):Nat):Int))]) (fun _=>[]) (fun k=>k≤af.length) (fun k=>af.length-k) 0 ?_ ?_ ?_
 ·dsimp only[x5_3d];simp only[show ((pkQ q (af.take 0):Nat):Int)=0 from rfl,go_sem];first|done|exact ⟨rfl,rfl⟩|rfl
 ·exact Nat.zero_le _
 intro k hk;dsimp only[x5_3,x5_3d];by_cases hk':k<af.length
 case neg=>
  obtain rfl:k=af.length:=by omega
  rw[List.take_length,hp];by_cases hng:x.1.getD i 0<0
  ·have hqm:=hm.2 hng;have e0:(((if x.1.getD i 0<0 then 0 else 1:Nat)):Int)=0:=by rw[if_pos hng];rfl
   have e2:¬(0:Int)>1:=by decide
   simp only[↓hcsKp8,entSml8,entFew8,entOf38,entBsX,entHlR,entIn38,entCkP,undef,hi',hk',hq,hqm,e0,e2,w1,go_sem];try simp only[hi',hk',hq,hqm,e0,e2,w1,td,reduceCtorEq]
   first
    |exact ⟨i+1,by omega,by omega,rfl⟩
  ·have hqm:¬q∈lo:=fun z=>hng (hm.1 z);have e0:(((if x.1.getD i 0<0 then 0 else 1:Nat)):Int)=1:=by rw[if_neg hng];rfl
   have e2:¬(1:Int)>1:=by decide
   have e3:¬(1:Int)=0:=by decide
   simp only[↓hcsKp8,entSml8,entFew8,entOf38,entBsX,entHlR,entIn38,entCkP,undef,hi',hk',hq,hqm,e0,e2,e3,w1,go_sem];try simp only[hi',hk',hq,hqm,e0,e2,e3,w1,td,reduceCtorEq]
   first
    |exact ⟨i+1,by omega,by omega,rfl⟩
 have w2:IntKind.i64.wrap ((k:Int)+1)=((k+1:Nat):Int):=i64_in _ (by omega);have hpn:=pkQ_take q af hk';have hple:=pkQ_le q (af.take k);have bA:=hsA k;have cA:=hA3 k;have h24:=hfi (af.getD k dPln) (by simp[List.getD,hk']);dsimp only[dPln] at hpn h24;obtain ⟨⟨pc,S,L,G⟩,hPA⟩:∃p:DPlan,af.getD k (0,[],[],[])=p:=⟨_,rfl⟩;rw[hPA] at hpn h24;dsimp only at hpn h24;obtain ⟨base,hbase⟩:∃z,pkQ q (af.take k)=z:=⟨_,rfl⟩;rw[hbase] at hpn hple;simp only[↓hcsKp8,entSml8,entFew8,entOf38,entBsX,entHlR,entIn38,entCkP,undef,hk',hbase,go_sem];try simp only[hk',hbase,td,reduceCtorEq]
 refine XW_for 3000 x5_4d [0] Nat (fun m=>[(23,.val Z1 (m:Int)),(21,.val Z1 ((base+cntQ q (S.take m):Nat):Int))]) (fun _=>[]) (fun m=>m≤S.length) (fun m=>S.length-m) 0 ?_ ?_ ?_
 ·dsimp only[x5_4d];simp only[show base+cntQ q (S.take 0)=base from rfl,go_sem];first|done|exact ⟨rfl,rfl⟩|rfl
 ·exact Nat.zero_le _
 intro m hm2;dsimp only[x5_4,x5_4d];by_cases hm':m<S.length
 case neg=>
  obtain rfl:m=S.length:=by omega
  have he:base+cntQ q (S.take S.length)=pkQ q (af.take (k+1)):=by rw[List.take_length,hpn]
  simp only[↓hcsKp8,entSml8,entFew8,entOf38,entBsX,entHlR,entIn38,entCkP,undef,hk',hPA,hm',he,w2,go_sem];try simp only[hk',hPA,hm',he,w2,td,reduceCtorEq]
  first
   |exact ⟨k+1,by omega,by omega,rfl,hpn.symm⟩
 have w3:IntKind.i64.wrap ((m:Int)+1)=((m+1:Nat):Int):=i64_in _ (by omega);have hcn:=cntQ_take q S hm';have hcl:=cntQ_le q (S.take m);rw[List.length_take] at hcl;dsimp only[dStop] at hcn;obtain ⟨⟨r,pk⟩,hr⟩:∃s:DStop,S.getD m (0,false)=s:=⟨_,rfl⟩;rw[hr] at hcn;by_cases hrq:r=q
 ·subst hrq;cases pk
  ·rw[if_neg (by simp)] at hcn;simp only[↓hcsKp8,entSml8,entFew8,entOf38,entBsX,entHlR,entIn38,entCkP,undef,hi',hk',hq,hPA,hm',hr,w3,go_sem];try simp only[hi',hk',hq,hPA,hm',hr,w3,td,reduceCtorEq]
   first
    |exact ⟨m+1,by omega,by omega,rfl,by rw[hcn];rfl⟩
  ·rw[if_pos rfl] at hcn;have w4:IntKind.i64.wrap (((base+cntQ r (S.take m):Nat):Int)+1)=((base+cntQ r (S.take (m+1)):Nat):Int):=by
    rw[hcn];exact i64_in _ (by omega)
   simp only[↓hcsKp8,entSml8,entFew8,entOf38,entBsX,entHlR,entIn38,entCkP,undef,hi',hk',hq,hPA,hm',hr,w3,w4,go_sem];try simp only[hi',hk',hq,hPA,hm',hr,w3,w4,td,reduceCtorEq]
   first
    |exact ⟨m+1,by omega,by omega,rfl,rfl⟩
 ·rw[if_neg (fun z=>hrq (congrArg Prod.fst z))] at hcn;simp only[↓hcsKp8,entSml8,entFew8,entOf38,entBsX,entHlR,entIn38,entCkP,undef,hi',hk',hq,hPA,hm',hr,hrq,w3,go_sem];try simp only[hi',hk',hq,hPA,hm',hr,hrq,w3,td,reduceCtorEq]
  first
   |exact ⟨m+1,by omega,by omega,rfl,by rw[hcn];rfl⟩
theorem conKp8':Con Tryz.prog entKp8:=conKp8 conBsX
end T
end Go.Proofs.YtpocfbfmjippnaaGreat
end
