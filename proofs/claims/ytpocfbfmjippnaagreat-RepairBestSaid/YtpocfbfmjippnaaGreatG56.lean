/- Parts of the proof of the law; no condition. -/
import Derived.Test.YtpocfbfmjippnaaGreatG55
set_option linter.all false
section
namespace Go.Proofs.YtpocfbfmjippnaaGreat
open Go.RowKit Go.IntWalk
namespace T
set_option pp.deepTerms true
set_option pp.maxSteps 1000000
def entBt0:Ent:={ entBt8 with pre:=fun x=>List.length (α:=Int) x.2.2.2.1=0 }
set_option maxHeartbeats 8000000 in
theorem conBt0 (hB:Con Tryz.prog entBsX):Con Tryz.prog entBt0:=by
 refine con_is (C:=csBt8) z4 (by kernel_rfl) (by simp[csBt8,conSml8 hB,conFew8,conOf38,hB,conHlR,conEds,conIn38,conPyd,conLsR,conRsI,conFst,conBg8]) fun x hx hf=>?_;obtain ⟨⟨(N:Int),(A:List DArc),(C:List DCar),(Q:List DReq),(P:List DPair),(S1:Int),(S2:Int),(S3:Int)⟩,(ps:List DPlan),(b:Int),(o:List Int),_⟩:=x;have hz:o.length=0:=hx;clear hx;dsimp only[entBt0,entBt8,z4,Z1,Z21,Za,Zb,Zc,Ze,Zf,Zh];cases h0:few8 (N,A,C,Q,P,S1,S2,S3) ps o []
 ·simp only[↓hcsBt8,entSml8,entFew8,entOf38,entBsX,entHlR,entEds,entIn38,entPyd,entPy8,entLsR,entRsI,entFst,entBg8,undef,h0,go_sem];try simp only[h0,td,reduceCtorEq]
 obtain ⟨⟨_,f1,f2,f3,f4⟩,f5,_⟩:FewR8 (N,A,C,Q,P,S1,S2,S3) ps o []:=of_decide_eq_true h0;have p1:ps.length≤1000:=by omega
 have p2:o.length≤1000:=by omega
 have p5:∀p∈ps,p.2.1.length≤4:=fun p hp=>by
  obtain ⟨i,hi,rfl⟩:=mem_at dPln hp;exact (f5 i hi).1
 have p4:∀p∈ps,p.2.1.length≤16:=fun p hp=>Nat.le_trans (p5 p hp) (by decide);obtain ⟨⟨a1,a2,a3,a4⟩,hR⟩:∃r,bestR (N,A,C,Q,P,S1,S2,S3) ps b o=r:=⟨_,rfl⟩;rcases best_cases (w:=(N,A,C,Q,P,S1,S2,S3)) (b:=b) (o:=o) p5 with h|⟨h4,x,F,hx⟩
 ·have z11:(1:Int)=1:=rfl;have z16:¬(1:Int)=6:=by decide
  have z61:¬(6:Int)=1:=by decide
  have z66:(6:Int)=6:=rfl;have z10:¬(1:Int)=0:=by decide
  have z60:¬(6:Int)=0:=by decide
  have w00:IntKind.i64.wrap (((0:Nat):Int)+((0:Nat):Int))=0:=by decide
  have w01:IntKind.i64.wrap (0+((0:Nat):Int))=0:=by decide
  have b00:((0:Int)==0)=true:=rfl;rcases h with h|h<;>
  ·simp only[↓hcsBt8,entSml8,entFew8,entOf38,entBsX,entHlR,entEds,entIn38,entPyd,entPy8,entLsR,entRsI,entFst,entBg8,undef,h0,p1,p2,f2,p4,h,z11,z16,z61,z66,z10,z60,List.length_nil,w00,w01,b00,go_sem];try simp only[h0,p1,p2,f2,p4,h,z11,z16,z61,z66,z10,z60,List.length_nil,w00,w01,b00,td,reduceCtorEq]
   all_goals first|done|exact p4
 have ho2:o.length≤2:=by omega
 have hR:=hx.is;obtain ⟨hl1,hl2⟩:=hx.lens;have hfi:∀p∈x.2.1,p.2.1.length≤24:=fun p hp=>Nat.le_trans (hx.fine p hp).2 (by omega);have h3:=hx.few;have hhp:∀p∈helpF ps b,p.2.1.length≤16:=fun p hp=>p4 p (mem_helpF.1 hp).1;have hown:=hx.own;have hstep:=fun {i:Nat} (hi:i<(chF (helpF ps b).length o.length).length) {t:List Int} (ht:(chF (helpF ps b).length o.length).getD i []=t)=>hx.step hi ht;have hall:=hx.cnt_all;have hbest:=fun {to:List Int} (hm:to∈chF (helpF ps b).length o.length)=>hx.best hm;obtain ⟨lo,hLo⟩:∃lo,lostF o x.1=lo:=⟨_,rfl⟩;rw[hLo] at hR hown;obtain ⟨pr,hPr⟩:∃pr,keepR x.1 F=pr:=⟨_,rfl⟩;rw[hPr] at hR hall;simp only[hPr] at hstep;obtain ⟨en,hEn⟩:∃en,endsR (N,A,C,Q,P,S1,S2,S3) x.2.1=en:=⟨_,rfl⟩;simp only[hEn] at hbest;obtain ⟨af,hAf⟩:∃af,x.2.1=af:=⟨_,rfl⟩;rw[hAf] at hR hl2 hfi hEn;obtain ⟨x1,hX1⟩:∃x1,x.1=x1:=⟨_,rfl⟩;simp only[hX1] at hstep hbest;rw[hX1] at hall hl1;replace hown:∀c,lessR c (ownB o lo o.length)=lessR c x1:=fun c=>by rw[hown,hX1]
 obtain ⟨hs,hH⟩:∃hs,helpF ps b=hs:=⟨_,rfl⟩;simp only[hH] at hstep hbest;rw[hH] at hl2 h3 hhp hall;obtain ⟨nx0,nx1⟩:=next_ch h3 ho2;clear hx hLo hPr hAf hX1;obtain ⟨h,hh⟩:∃h:Int,(hs.length:Int)=h:=⟨_,rfl⟩;have haf:(af.length:Int)=h:=by omega
 have haf1:af.length≤1000:=by omega
 have hog:¬(o.length:Int)>2:=by omega
 obtain ⟨f,hff⟩:∃f:Int,fstF h=f:=⟨_,rfl⟩;have hf0:(if (h:Int)=0 then (-1:Int) else 0)=f:=hff;have hb0:(0:Int)≤(o.length:Int):=by omega
 have hb1:(o.length:Int)≤1000:=by omega
 obtain rfl:=List.eq_nil_of_length_eq_zero hz;obtain rfl:=List.eq_nil_of_length_eq_zero hl1;have hP:playR (N,A,C,Q,P,S1,S2,S3) hs [] [] 0=(hs,-1):=by rw[playR];intro q o' t to' h;cases h
 have hmem:([]:List Int)∈chF hs.length ([]:List Int).length:=List.mem_singleton.2 rfl;have hb:=hbest hmem (by rw[hP];show (-1:Int)<0;decide);rw[hP] at hb;obtain ⟨n,hn⟩:∃n,endsR (N,A,C,Q,P,S1,S2,S3) hs=n:=⟨_,rfl⟩;dsimp only at hb;rw[hn] at hb;have hls:lessR [] []=0:=by decide
 have hne:¬n<en:=fun z=>hb.2 ⟨hls,z⟩;have hpr:pr.length=0:=by
  have e:=(hstep (i:=0) (t:=[]) (Nat.lt_succ_self 0) rfl).2 (by unfold badB;rw[hP];rfl);have e2:cntB (N,A,C,Q,P,S1,S2,S3) hs [] [] 1=pr.length:=hall;rw[←e2];exact e
 obtain rfl:=List.eq_nil_of_length_eq_zero hpr;have lo0:(0:Nat)≤1000:=by decide
 have lo2:(0:Nat)≤2:=by decide
 have hog:¬((0:Nat):Int)>2:=by decide
 clear hstep hbest hall hb hown nx0 nx1;simp only[↓hcsBt8,entSml8,entFew8,entOf38,entBsX,entHlR,entEds,entIn38,entPyd,entPy8,entLsR,entRsI,entFst,entBg8,undef,h0,p1,p2,f2,p4,hR,hH,hh,haf,haf1,hog,hfi,hEn,lo0,lo2,go_sem];try simp only[h0,p1,p2,f2,p4,hR,hH,hh,haf,haf1,hog,hfi,hEn,lo0,lo2,td,reduceCtorEq]
 refine ⟨p4,hfi,?_⟩;have n00:¬(0:Int)<0:=by decide
 have n0n:¬(0:Int)<((0:Nat):Int):=by decide
 refine XW_for 1000 z4_0d [0] Nat (fun _=>[(17,.val Z1 0),(16,.own 100)]) (fun _=>[(100,.row 3 (.int .i64) [])]) (fun _=>True) (fun _=>0) 0 ?_ trivial ?_
 ·dsimp only[z4_0d];simp only[go_sem];first|done|exact ⟨rfl,rfl⟩|rfl
 intro _ _;dsimp only[z4_0,z4_0d,z22,Z1,Za,Zb,Ze];simp only[↓hcsBt8,entSml8,entFew8,entOf38,entBsX,entHlR,entEds,entIn38,entPyd,entPy8,entLsR,entRsI,entFst,entBg8,undef,n00,n0n,List.length_nil,go_sem];try simp only[n00,n0n,List.length_nil,td,reduceCtorEq]
 refine XW_for 2000 z22_0d [0,100] Nat (fun _=>[(6,.val Z1 0),(5,.nnl)]) (fun _=>[]) (fun _=>True) (fun _=>0) 0 ?_ trivial ?_
 ·dsimp only[z22_0d];simp only[go_sem];first|done|exact ⟨rfl,rfl⟩|rfl
 intro _ _;dsimp only[z22_0,z22_0d];simp only[↓hcsBt8,entSml8,entFew8,entOf38,entBsX,entHlR,entEds,entIn38,entPyd,entPy8,entLsR,entRsI,entFst,entBg8,undef,n00,n0n,go_sem];try simp only[n00,n0n,td,reduceCtorEq]
 have hs1:hs.length≤1000:=by omega
 have na:¬(-1:Int)≥0:=by decide
 have nb:(-1:Int)<0:=by decide
 have g00:(0:Int)≥0:=by decide
 have w01:IntKind.i64.wrap (((0:Nat):Int)-1)= -1:=by decide
 have hb8:(0+0)*8≤140737488355328:=by decide
 have hnm:∀t:Int,¬t∈([]:List Int):=fun t h=>by cases h
 refine XW_first 3000 z4_1d [0,100] Nat (fun _=>[(20,.cst (.slice none 0 0)),(19,.val Z1 0)]) (fun _=>[]) (fun _=>True) (fun _=>0) 1 ?_ ?_
 ·dsimp only[z4_1,z4_1d,z23,Z1,Z21,Z24,Z5,Za,Zb,Zc,Ze,Zf];simp only[↓hcsBt8,entSml8,entFew8,entOf38,entBsX,entHlR,entEds,entIn38,entPyd,entPy8,entLsR,entRsI,entFst,entBg8,undef,hP,plyF,hn,hs1,hls,hne,lo0,lo2,na,nb,n00,g00,w01,hb8,hnm,hhp,List.length_nil,go_sem];try simp only[hP,plyF,hn,hs1,hls,hne,lo0,lo2,na,nb,n00,g00,w01,hb8,hnm,hhp,List.length_nil,td,reduceCtorEq]
  refine ⟨hhp,?_⟩;have nm:¬(-1:Int)≥0:=by decide
  refine XW_for 4000 z23_0d [0,100] Nat (fun _=>[(6,.val Z1 (-1))]) (fun _=>[]) (fun _=>True) (fun _=>0) 0 ?_ trivial ?_
  ·dsimp only[z23_0d];simp only[go_sem];first|done|exact ⟨rfl,rfl⟩|rfl
  intro _ _;dsimp only[z23_0,z23_0d];simp only[↓hcsBt8,entSml8,entFew8,entOf38,entBsX,entHlR,entEds,entIn38,entPyd,entPy8,entLsR,entRsI,entFst,entBg8,undef,nm,go_sem];try simp only[nm,td,reduceCtorEq]
  exact ⟨0,by decide⟩
 intro _ _;dsimp only[z4_1,z4_1d,Z1,Z21,Z24,Z5,Za,Zb,Zc,Ze,Zf];have bz:((0:Int)==((([]:List DCase).length:Nat):Int))=true:=rfl;have e00:(0:Int)=((0:Nat):Int):=rfl;simp only[↓hcsBt8,entSml8,entFew8,entOf38,entBsX,entHlR,entEds,entIn38,entPyd,entPy8,entLsR,entRsI,entFst,entBg8,undef,bz,e00,List.length_nil,go_sem];try simp only[bz,e00,List.length_nil,td,reduceCtorEq]
theorem conBt8 (hB:Con Tryz.prog entBsX):Con Tryz.prog entBt8:=by
 refine Con.to ⟨((conBt0 hB).is rfl).1,fun x _=>?_⟩ rfl;rcases Nat.eq_zero_or_pos (List.length (α:=Int) x.2.2.2.1) with h|h
 ·exact ((conBt0 hB).is rfl).2 x h
 ·exact ((conBt1 hB).is rfl).2 x h
theorem conBt8':Con Tryz.prog entBt8:=conBt8 conBsX
end T
end Go.Proofs.YtpocfbfmjippnaaGreat
end
