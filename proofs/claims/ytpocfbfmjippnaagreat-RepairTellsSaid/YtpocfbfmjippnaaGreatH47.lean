/- Parts of the proof of the law; no condition. -/
import Derived.Test.YtpocfbfmjippnaaGreatH32
import Derived.Test.YtpocfbfmjippnaaGreatH37
set_option linter.all false
section
namespace Go.Proofs.YtpocfbfmjippnaaGreat
open Go.RowKit Go.IntWalk
namespace T
def OrdB (n:Int) (o:List Int):Prop:=∀j,j<o.length→(0≤o.getD j 0∧o.getD j 0<n)∧o.getD j 0∉o.take j
instance (n:Int) (o:List Int):Decidable (OrdB n o):=by unfold OrdB;infer_instance
def ordB (n:Int) (o:List Int):Bool:=decide (OrdB n o)
theorem ordB_no {n:Int} {o:List Int} (h:¬OrdB n o):ordB n o=false:=decide_eq_false h
theorem ordB_yes {n:Int} {o:List Int} (h:OrdB n o):ordB n o=true:=decide_eq_true h
def entOrd:Ent:=⟨75,.cons Z5 (.cons Z1 .nil),.bool,false,none,fun x=>List.length (α:=Int) x.1≤1000,fun x=>ordB x.2.1 x.1⟩
def csOrd:List Ent:=[] theorem hcsOrd (f:FuncId):findEnt csOrd f=findEnt [] f:=rfl
theorem conOrd:Con Tryz.prog entOrd:=by
 refine con_is (C:=csOrd) x75 (by kernel_rfl) (by simp[csOrd]) fun x hx hf=>?_;obtain ⟨(o:List Int),(n:Int),_⟩:=x;have ho:o.length≤1000:=hx;have hno:=fun h=>ordB_no (n:=n) (o:=o) h;dsimp only[entOrd,x75];simp only[↓hcsOrd,undef,go_sem];try simp only[td,reduceCtorEq]
 refine XW_for 1000 x75_0d [] Nat (fun k=>[(5,.val Z1 (k:Int))]) (fun _=>[]) (fun k=>k≤o.length∧∀j,j<k→(0≤o.getD j 0∧o.getD j 0<n)∧o.getD j 0∉o.take j) (fun k=>o.length-k) 0 ?_ ?_ ?_
 ·dsimp only[x75_0d];simp only[go_sem];first|done|rfl|trivial
 ·exact ⟨Nat.zero_le _,fun j hj=>absurd hj (Nat.not_lt_zero _)⟩
 rintro k ⟨hk,hd⟩;dsimp only[x75_0,x75_0d];by_cases hk':k<o.length
 case neg=>
  obtain rfl:k=o.length:=by omega
  have hF:=ordB_yes (n:=n) (o:=o) hd;simp only[↓hcsOrd,undef,hk',hF,go_sem];try simp only[hk',hF,td,reduceCtorEq]
 have wk:IntKind.i64.wrap ((k:Int)+1)=((k+1:Nat):Int):=i64_in _ (by omega);have hbad:=fun (z:¬((0≤o.getD k 0∧o.getD k 0<n)∧o.getD k 0∉o.take k))=>hno fun y=>z (y k hk');have hnx:((0≤o.getD k 0∧o.getD k 0<n)∧o.getD k 0∉o.take k)→∀j,j<k+1→(0≤o.getD j 0∧o.getD j 0<n)∧o.getD j 0∉o.take j:=fun h j hj=>by
  by_cases c:j=k
  ·subst c;exact h
  ·exact hd j (by omega)
 obtain ⟨q,hq⟩:∃q,o.getD k 0=q:=⟨_,rfl⟩;rw[hq] at hnx hbad;by_cases c1:q<0
 ·have hF:=hbad fun z=>by omega
  simp only[↓hcsOrd,undef,hk',hq,c1,hF,go_sem];try simp only[hk',hq,c1,hF,td,reduceCtorEq]
 by_cases c2:n≤q
 ·have hF:=hbad fun z=>by omega
  have c2':q≥n:=c2;simp only[↓hcsOrd,undef,hk',hq,c1,c2,c2',hF,go_sem];try simp only[hk',hq,c1,c2,c2',hF,td,reduceCtorEq]
 have c2':¬q≥n:=c2;simp only[↓hcsOrd,undef,hk',hq,c1,c2,c2',go_sem];try simp only[hk',hq,c1,c2,c2',td,reduceCtorEq]
 refine XW_for 2000 x75_1d [] Nat (fun i=>[(6,.val Z1 (i:Int))]) (fun _=>[]) (fun i=>i≤k∧q∉o.take i) (fun i=>k-i) 0 ?_ ?_ ?_
 ·dsimp only[x75_1d];simp only[go_sem];first|done|rfl|trivial
 ·exact ⟨Nat.zero_le _,by simp⟩
 rintro i ⟨hi,hn⟩;dsimp only[x75_1,x75_1d];by_cases hi':i<k
 case neg=>
  obtain rfl:i=k:=by omega
  have hN:=hnx ⟨by omega,hn⟩;simp only[↓hcsOrd,undef,hi',wk,go_sem];try simp only[hi',wk,td,reduceCtorEq]
  exact ⟨i+1,by omega,⟨by omega,hN⟩,rfl⟩
 have wi:IntKind.i64.wrap ((i:Int)+1)=((i+1:Nat):Int):=i64_in _ (by omega);have hio:i<o.length:=by omega
 have ht:=take_nx (d:=0) hio;obtain ⟨y,hY⟩:∃y,o.getD i 0=y:=⟨_,rfl⟩;rw[hY] at ht;by_cases hy:y=q
 ·have hF:=hbad fun z=>z.2 (by
   rw[←hy,←hY,show o.getD i 0=(o.take k)[i]'(by rw[List.length_take];omega) by rw[List.getElem_take];simp[List.getD,hio]];exact List.getElem_mem _)
  subst hy;simp only[↓hcsOrd,undef,hi',hio,hk',hY,hq,hF,go_sem];try simp only[hi',hio,hk',hY,hq,hF,td,reduceCtorEq]
 ·simp only[↓hcsOrd,undef,hi',hio,hk',hY,hq,hy,wi,go_sem];try simp only[hi',hio,hk',hY,hq,hy,wi,td,reduceCtorEq]
  refine ⟨i+1,by omega,⟨by omega,?_⟩,rfl⟩;rw[ht,List.mem_append,List.mem_singleton];exact fun z=>z.elim hn fun e=>hy e.symm
def entRr38:Ent:=⟨38,.cons Z21 (.cons Z23 (.cons Z1 (.cons Z5 .nil))),.bool,false,none,fun x=>(List.length (α:=DPlan) x.2.1≤1000∧List.length (α:=Int) x.2.2.2.1≤1000)∧∀p∈(x.2.1:List DPlan),p.2.1.length≤24,fun x=>rightR38 x.1 x.2.1 x.2.2.1 x.2.2.2.1⟩
def csRr38:List Ent:=[entRR20,entCkR,entHlR,entNmd,entOrd] theorem hcsRr38 (f:FuncId):findEnt csRr38 f=findEnt [entRR20,entCkR,entHlR,entNmd,entOrd] f:=rfl
set_option maxHeartbeats 1000000 in
theorem conRr38:Con Tryz.prog entRr38:=by
 refine con_is (C:=csRr38) x38 (by kernel_rfl) (by simp[csRr38,conRR20,conCkR,conHlR,conNmd,conOrd]) fun x hx hf=>?_;obtain ⟨⟨(N:Int),(A:List DArc),(C:List DCar),(Q:List DReq),(P:List DPair),(S1:Int),(S2:Int),(S3:Int)⟩,(ps:List DPlan),(b:Int),(o:List Int),_⟩:=x;obtain ⟨⟨hl,ho⟩,hx⟩:(ps.length≤1000∧o.length≤1000)∧∀p∈ps,p.2.1.length≤24:=hx;have hno:=fun h=>rightR_no (w:=(N,A,C,Q,P,S1,S2,S3)) (ps:=ps) (b:=b) (o:=o) h;have hyes:=fun h=>rightR_yes (w:=(N,A,C,Q,P,S1,S2,S3)) (ps:=ps) (b:=b) (o:=o) h;dsimp only[entRr38,x38];cases h1:rightP (N,A,C,Q,P,S1,S2,S3) with
 |false=>
  have hF:=hno fun z=>by rw[z.1] at h1;cases h1
  simp only[↓hcsRr38,entRR20,entCkR,entHlR,entNmd,entOrd,undef,h1,hF,go_sem];try simp only[h1,hF,td,reduceCtorEq]
 |true=>
 by_cases h2:b<0
 ·have hF:=hno fun z=>by have:=z.2.1;omega
  simp only[↓hcsRr38,entRR20,entCkR,entHlR,entNmd,entOrd,undef,h1,h2,hF,go_sem];try simp only[h1,h2,hF,td,reduceCtorEq]
 by_cases h3:(C.length:Int)≤b
 ·have hF:=hno fun z=>by have:=z.2.2.1;dsimp only at this;omega
  have h3':b≥(C.length:Int):=h3;simp only[↓hcsRr38,entRR20,entCkR,entHlR,entNmd,entOrd,undef,h1,h2,h3,h3',hF,go_sem];try simp only[h1,h2,h3,h3',hF,td,reduceCtorEq]
 have h3':¬b≥(C.length:Int):=h3;simp only[↓hcsRr38,entRR20,entCkR,entHlR,entNmd,entOrd,undef,h1,h2,h3,h3',go_sem];try simp only[h1,h2,h3,h3',td,reduceCtorEq]
 refine XW_for 1000 x38_0d [0] Nat (fun j=>[(9,.val Z1 (j:Int))]) (fun _=>[]) (fun j=>j≤ps.length∧∀i,i<j→checkP (N,A,C,Q,P,S1,S2,S3) (ps.getD i dPln)=0∧∀k,k<i→(ps.getD k dPln).1≠(ps.getD i dPln).1) (fun j=>ps.length-j) 0 ?_ ?_ ?_
 ·dsimp only[x38_0d];simp only[go_sem];first|done|exact ⟨rfl,rfl⟩|rfl|trivial
 ·exact ⟨Nat.zero_le _,fun j hj=>absurd hj (Nat.not_lt_zero _)⟩
 rintro j ⟨hj,hg⟩;dsimp only[x38_0,x38_0d];by_cases hj':j<ps.length
 case pos=>
  have w1:IntKind.i64.wrap ((j:Int)+1)=((j+1:Nat):Int):=i64_in _ (by omega);have hm:=hx (ps.getD j dPln) (by simp[List.getD,hj']);have hnx:(checkP (N,A,C,Q,P,S1,S2,S3) (ps.getD j dPln)=0∧∀k,k<j→(ps.getD k dPln).1≠(ps.getD j dPln).1)→∀i,i<j+1→checkP (N,A,C,Q,P,S1,S2,S3) (ps.getD i dPln)=0∧∀k,k<i→(ps.getD k dPln).1≠(ps.getD i dPln).1:=fun h i hi=>by
   by_cases c:i=j
   ·subst c;exact h
   ·exact hg i (by omega)
  have hbad:=fun (z:¬(checkP (N,A,C,Q,P,S1,S2,S3) (ps.getD j dPln)=0∧∀i,i<j→(ps.getD i dPln).1≠(ps.getD j dPln).1))=>hno fun y=>z (y.2.2.2.1 j hj').1;dsimp only[dPln] at hm hnx hbad;obtain ⟨⟨c,ss,L,G⟩,hP⟩:∃p:DPlan,ps.getD j (0,[],[],[])=p:=⟨_,rfl⟩;rw[hP] at hm hnx hbad;dsimp only at hm hnx hbad;by_cases hck:checkP (N,A,C,Q,P,S1,S2,S3) (c,ss,L,G)=0
  case neg=>
   have hF:=hbad fun z=>hck z.1;simp only[↓hcsRr38,entRR20,entCkR,entHlR,entNmd,entOrd,undef,hj',hP,hck,hm,hF,go_sem];try simp only[hj',hP,hck,hm,hF,td,reduceCtorEq]
  simp only[↓hcsRr38,entRR20,entCkR,entHlR,entNmd,entOrd,undef,hj',hP,hck,hm,go_sem];try simp only[hj',hP,hck,hm,td,reduceCtorEq]
  refine XW_for 2000 x38_1d [0] Nat (fun i=>[(10,.val Z1 (i:Int))]) (fun _=>[]) (fun i=>i≤j∧∀k,k<i→(ps.getD k (0,[],[],[])).1≠c) (fun i=>j-i) 0 ?_ ?_ ?_
  ·dsimp only[x38_1d];simp only[go_sem];first|done|rfl|trivial
  ·exact ⟨Nat.zero_le _,fun j hj=>absurd hj (Nat.not_lt_zero _)⟩
  rintro i ⟨hi,hn⟩;dsimp only[x38_1,x38_1d];by_cases hi':i<j
  case neg=>
   obtain rfl:i=j:=by omega
   have hN:=hnx ⟨hck,hn⟩;simp only[↓hcsRr38,entRR20,entCkR,entHlR,entNmd,entOrd,undef,hi',w1,go_sem];try simp only[hi',w1,td,reduceCtorEq]
   exact ⟨i+1,by omega,⟨by omega,hN⟩,rfl⟩
  have wi:IntKind.i64.wrap ((i:Int)+1)=((i+1:Nat):Int):=i64_in _ (by omega);have hil:i<ps.length:=by omega
  obtain ⟨⟨c',ss',L',G'⟩,hP'⟩:∃p:DPlan,ps.getD i (0,[],[],[])=p:=⟨_,rfl⟩;by_cases hc:c'=c
  ·have hF:=hbad fun z=>z.2 i hi' (by rw[hP'];exact hc);subst hc;simp only[↓hcsRr38,entRR20,entCkR,entHlR,entNmd,entOrd,undef,hi',hil,hj',hP,hP',hF,go_sem];try simp only[hi',hil,hj',hP,hP',hF,td,reduceCtorEq]
  ·simp only[↓hcsRr38,entRR20,entCkR,entHlR,entNmd,entOrd,undef,hi',hil,hj',hP,hP',hc,wi,go_sem];try simp only[hi',hil,hj',hP,hP',hc,wi,td,reduceCtorEq]
   refine ⟨i+1,by omega,⟨by omega,fun k hk=>?_⟩,rfl⟩;by_cases e:k=i
   ·subst e;rw[hP'];exact hc
   ·exact hn k (by omega)
 obtain rfl:j=ps.length:=by omega
 have hll:ps.length≤1000:=hl;have hbad:=fun (z:¬ ∀p∈helpF ps b,∀s∈p.2.1,s.1∉o)=>hno fun y=>z fun p hp s hs=>by
  obtain ⟨hp,hpb⟩:=mem_helpF.1 hp;obtain ⟨i,hi,rfl⟩:=List.getElem_of_mem hp;have:=(y.2.2.2.1 i hi).2;rw[show ps.getD i dPln=ps[i] by simp[List.getD,hi]] at this;exact this hpb s hs
 have hgood:(∀p∈helpF ps b,∀s∈p.2.1,s.1∉o)→GoodR (N,A,C,Q,P,S1,S2,S3) ps b o ps.length:=fun h i hi=>⟨hg i hi,fun hb s hs=>h (ps.getD i dPln) (mem_helpF.2 ⟨by simp[List.getD,hi],hb⟩) s hs⟩;have hHl:=helpF_len ps b;obtain ⟨H,hH⟩:∃H,helpF ps b=H:=⟨_,rfl⟩;rw[hH] at hbad hgood hHl;simp only[↓hcsRr38,entRR20,entCkR,entHlR,entNmd,entOrd,undef,hj',hll,hH,go_sem];try simp only[hj',hll,hH,td,reduceCtorEq]
 refine XW_for 2000 x38_2d [0] Nat (fun j=>[(12,.val Z1 (j:Int))]) (fun _=>[]) (fun j=>j≤H.length∧∀i,i<j→∀s∈(H.getD i dPln).2.1,s.1∉o) (fun j=>H.length-j) 0 ?_ ?_ ?_
 ·dsimp only[x38_2d];simp only[go_sem];first|done|exact ⟨rfl,rfl⟩|rfl|trivial
 ·exact ⟨Nat.zero_le _,fun j hj=>absurd hj (Nat.not_lt_zero _)⟩
 rintro j ⟨hjj,hgg⟩;dsimp only[x38_2,x38_2d];by_cases hjj':j<H.length
 case neg=>
  obtain rfl:j=H.length:=by omega
  have hG:=hgood fun p hp s hs=>by
   obtain ⟨i,hi,rfl⟩:=List.getElem_of_mem hp;exact hgg i hi s (by rw[show H.getD i dPln=H[i] by simp[List.getD,hi]];exact hs)
  by_cases hO:OrdB (Q.length:Int) o
  ·have hF:=hyes ⟨h1,by omega,by show b<(C.length:Int);omega,hG,hO⟩;have hO':=ordB_yes hO;simp only[↓hcsRr38,entRR20,entCkR,entHlR,entNmd,entOrd,undef,hjj',ho,hF,hO',go_sem];try simp only[hjj',ho,hF,hO',td,reduceCtorEq]
  ·have hF:=hno fun z=>hO z.2.2.2.2;have hO':=ordB_no hO;simp only[↓hcsRr38,entRR20,entCkR,entHlR,entNmd,entOrd,undef,hjj',ho,hF,hO',go_sem];try simp only[hjj',ho,hF,hO',td,reduceCtorEq]
 have wj:IntKind.i64.wrap ((j:Int)+1)=((j+1:Nat):Int):=i64_in _ (by omega);have hmem:H.getD j dPln∈H:=by simp[List.getD,hjj']
 have hnx:(∀s∈(H.getD j dPln).2.1,s.1∉o)→∀i,i<j+1→∀s∈(H.getD i dPln).2.1,s.1∉o:=fun h i hi=>by
  by_cases c:i=j
  ·subst c;exact h
  ·exact hgg i (by omega)
 dsimp only[dPln] at hmem hnx;obtain ⟨⟨c,ss,L,G⟩,hP⟩:∃p:DPlan,H.getD j (0,[],[],[])=p:=⟨_,rfl⟩;rw[hP] at hmem hnx;dsimp only at hmem hnx;simp only[↓hcsRr38,entRR20,entCkR,entHlR,entNmd,entOrd,undef,hjj',hP,go_sem];try simp only[hjj',hP,td,reduceCtorEq]
 refine XW_for 3000 x38_3d [0] Nat (fun i=>[(13,.val Z1 (i:Int))]) (fun _=>[]) (fun i=>i≤o.length∧∀k,k<i→namedI ss (o.getD k 0)=false) (fun i=>o.length-i) 0 ?_ ?_ ?_
 ·dsimp only[x38_3d];simp only[go_sem];first|done|rfl|trivial
 ·exact ⟨Nat.zero_le _,fun j hj=>absurd hj (Nat.not_lt_zero _)⟩
 rintro i ⟨hi,hn⟩;dsimp only[x38_3,x38_3d];by_cases hi':i<o.length
 case neg=>
  obtain rfl:i=o.length:=by omega
  have hN:=hnx fun s hs hm=>by
   obtain ⟨k,hk,e⟩:=List.getElem_of_mem hm;have:=hn k hk;rw[show o.getD k 0=s.1 by rw[←e];simp[List.getD,hk]] at this;unfold namedI at this;rw[List.any_eq_false] at this;exact this s hs (decide_eq_true rfl)
  simp only[↓hcsRr38,entRR20,entCkR,entHlR,entNmd,entOrd,undef,hi',wj,go_sem];try simp only[hi',wj,td,reduceCtorEq]
  exact ⟨j+1,by omega,⟨by omega,hN⟩,rfl⟩
 have wi:IntKind.i64.wrap ((i:Int)+1)=((i+1:Nat):Int):=i64_in _ (by omega);have hoi:=getD_mem (o:=o) hi';have hstep:namedI ss (o.getD i 0)=false→∀k,k<i+1→namedI ss (o.getD k 0)=false:=fun h k hk=>by
  by_cases c:k=i
  ·subst c;exact h
  ·exact hn k (by omega)
 obtain ⟨q,hq⟩:∃q,o.getD i 0=q:=⟨_,rfl⟩;rw[hq] at hoi hstep;cases hnm:namedI ss q with
 |true=>
  have hF:=hbad fun z=>by
   unfold namedI at hnm;rw[List.any_eq_true] at hnm;obtain ⟨s,hs,e⟩:=hnm;exact z _ hmem s hs (by rw[of_decide_eq_true e];exact hoi)
  simp only[↓hcsRr38,entRR20,entCkR,entHlR,entNmd,entOrd,undef,hi',hjj',hP,hq,hnm,hF,go_sem];try simp only[hi',hjj',hP,hq,hnm,hF,td,reduceCtorEq]
 |false=>
  have hS:=hstep hnm;simp only[↓hcsRr38,entRR20,entCkR,entHlR,entNmd,entOrd,undef,hi',hjj',hP,hq,hnm,wi,go_sem];try simp only[hi',hjj',hP,hq,hnm,wi,td,reduceCtorEq]
  exact ⟨i+1,by omega,⟨by omega,hS⟩,rfl⟩
end T
end Go.Proofs.YtpocfbfmjippnaaGreat
end
