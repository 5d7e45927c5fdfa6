/- Parts of the proof of the law; no condition. -/
import Derived.Test.YtcnfmabhghhdnaaGreatA17
set_option linter.all false
section
namespace Go.Proofs.YtcnfmabhghhdnaaGreat
open Go.RowKit Go.IntWalk
namespace T
def entGd16:Ent:=⟨168,.cons Z11 .nil,Z10,false,none,fun x=>rightC x.1=true∧∀r∈(x.1:DChain).2.2,lateR x.1 r=false,fun x=>gsF x.1 (x.1:DChain).1.length⟩
def csGd6:List Ent:=[entHg16] theorem hcsGd6 (f:FuncId):findEnt csGd6 f=findEnt [entHg16] f:=rfl
set_option maxHeartbeats 4000000 in
theorem conGd16:Con Tryz.prog entGd16:=by
 refine con_is (C:=csGd6) x168 (by kernel_rfl) (by simp[csGd6,conHg16]) fun x hx hf=>?_;obtain ⟨⟨(W:List DWin),(L:List DLeg),(R:List DRide)⟩,_⟩:=x;obtain ⟨hr,hnl⟩:=hx;have hr:rightC (W,L,R)=true:=hr;have hnl:∀r∈R,lateR (W,L,R) r=false:=hnl;have hc:=(rightC_iff.1 hr).1;dsimp only at hc;have w4:IntKind.i64.wrap ((W.length:Int)-1)=(W.length:Int)-1:=i64_in _ (by omega);dsimp only[entGd16,x168,Z1,Z3,Za,Zb,Zg];simp only[↓hcsGd6,entHg16,w4,go_sem];try simp only[w4,td,reduceCtorEq]
 have hgl:∀p,(gsF (W,L,R) (W.length-p)).length=W.length-p:=fun p=>gsF_len _ _;have hgb:∀p,Within 0 (85983232*(((W.length-p:Nat):Int)+1)) (gsF (W,L,R) (W.length-p)):=fun p=>gs_bd hr _ (Nat.sub_le _ _);refine ⟨by show (8:Int)*(W.length:Int)≤_;omega,?_⟩;refine XW_for 2000 x168_0d [0,1] Nat (fun p=>[(5,.val Z1 ((p:Int)-1))]) (fun p=>[(7,.row 3 (.int .i64) (aR p (gsF (W,L,R) (W.length-p))))]) (fun p=>p≤W.length) (fun p=>p) W.length ?_ ?_ ?_
 ·dsimp only[x168_0d];simp only[go_sem];rw[Nat.sub_self];exact (List.append_nil _).symm
 ·exact Nat.le_refl _
 intro p hp;have hrest:=hgl p;have hrb:=hgb p;generalize hG:gsF (W,L,R) (W.length-p)=rest at hrest hrb;cases p with
 |succ k=>
  have e9:((k+1:Nat):Int)-1=(k:Int):=by omega
  have e10:(k:Int)≥0:=by omega
  dsimp only[x168_0,x168_0d,Z1,Z2,Z3,Za,Zb,Zg];simp only[↓hcsGd6,entHg16,e9,e10,aR_set,aR_len,go_sem];try simp only[e9,e10,aR_set,aR_len,td,reduceCtorEq]
  refine ⟨⟨by omega,by omega⟩,?_⟩;have hk:k<W.length:=by omega
  have hstep:=gs_step (W,L,R) (k:=k) hk;rw[hG] at hstep;have hfp:∀i,0≤(R.take i).foldl (rF (W,L,R) k rest) (W.getD k (0,0)).1∧(R.take i).foldl (rF (W,L,R) k rest) (W.getD k (0,0)).1≤85983232*(((W.length-(k+1):Nat):Int)+1)+85983232:=fun i=>by
   have h2:=right_win hr (k:=k) hk;dsimp only at h2;exact fold_bd hr (by omega) hrb (R.take i) (fun r hr=>List.mem_of_mem_take hr) _ h2.1 (by omega)
  refine XW_for 3000 x168_1d [0,1] Nat (fun i=>[(6,.val Z1 (i:Int))]) (fun i=>[(7,.row 3 (.int .i64) (bR k ((R.take i).foldl (rF (W,L,R) k rest) (W.getD k (0,0)).1) rest))]) (fun i=>i≤R.length) (fun i=>R.length-i) 0 ?_ ?_ ?_
  ·dsimp only[x168_1d];simp only[go_sem];exact ⟨rfl,rfl⟩
  ·exact Nat.zero_le _
  intro i hi;by_cases hi':i<R.length
  ·have w3:IntKind.i64.wrap ((i:Int)+1)=((i+1:Nat):Int):=i64_in _ (by omega);have w5:IntKind.i64.wrap ((k:Int)+1)=((k+1:Nat):Int):=i64_in _ (by omega);have hrd:=right_ride hr (k:=i) hi';have hts:R.take (i+1)=R.take i++[R.getD i (0,0,0)]:=by
    rw[List.take_succ_eq_append_getElem hi'];simp[List.getD,hi']
   have hfi:=hfp i;have hmem:=getD_mem2 (d:=((0,0,0):DRide)) hi';generalize hS:R.getD i (0,0,0)=r at hrd hts hmem;generalize hA:(R.take i).foldl (rF (W,L,R) k rest) (W.getD k (0,0)).1=acc at hfi;obtain ⟨a,b,d⟩:=r;dsimp only at hrd;obtain ⟨b,rfl⟩:∃z:Nat,b=z:=⟨b.toNat,by omega⟩;have hi0:(i:Int)<(R.length:Int):=by omega
   dsimp only[x168_1,x168_1d,Z5,Z9,Za,Zb,Zd,Zg];simp only[↓hcsGd6,entHg16,hi',hi0,hS,hA,w3,w5,go_sem];try simp only[hi',hi0,hS,hA,w3,w5,td,reduceCtorEq]
   have hrf:rF (W,L,R) k rest acc (a,(b:Int),d)=if a=k then mF (W,L,R) k rest (a,(b:Int),d) acc (b-k) else acc:=by
    unfold rF;dsimp only;rw[Int.toNat_natCast]
   have hmb:a=k→∀q,q≤b-k→0≤mF (W,L,R) k rest (a,(b:Int),d) acc q∧mF (W,L,R) k rest (a,(b:Int),d) acc q≤85983232*(((W.length-(k+1):Nat):Int)+1)+85983232:=fun e=>by
    have h1:=mF_bd hr hmem e (by omega) hrb hfi.1 hfi.2;dsimp only at h1;rw[Int.toNat_natCast] at h1;exact h1
   refine XW_for 4000 x168_2d [0,1,3010] Nat (fun q=>[(8,.val Z1 ((k+1+q:Nat):Int))]) (fun q=>[(7,.row 3 (.int .i64) (bR k (if a=k then mF (W,L,R) k rest (a,(b:Int),d) acc q else acc) rest))]) (fun q=>(q≤b-k)∧(a≠k→q=0)) (fun q=>b-k-q) 0 ?_ ?_ ?_
   ·dsimp only[x168_2d];simp only[go_sem];split<;>rfl
   ·exact ⟨Nat.zero_le _,fun _=>rfl⟩
   rintro q ⟨hq,hq0⟩;by_cases hgo:a=k∧q<b-k
   ·obtain ⟨hak,hq'⟩:=hgo;subst hak;have w6:IntKind.i64.wrap (((k+1+q:Nat):Int)+1)=((k+1+(q+1):Nat):Int):=(i64_in _ (by omega)).trans (by omega);have hcb:((k+1+q:Nat):Int)≤(b:Int):=by omega
    have hmq:=hmb rfl q (by omega);have hrq:=hrb.getD (by omega) (by omega) q;have hpm:=psF_mono hr (a:=k+1+q) (b:=b) (by omega);dsimp only at hpm;have w7:IntKind.i64.wrap (rest.getD q 0+(psF L b-psF L (k+1+q)))=rest.getD q 0+(psF L b-psF L (k+1+q)):=i64_in _ (by omega);have w8:IntKind.i64.wrap (rest.getD q 0+(psF L b-psF L (k+1+q))-d)=rest.getD q 0+(psF L b-psF L (k+1+q))-d:=i64_in _ (by omega);dsimp only[x168_2,x168_2d,Z1,Z11,Za,Zb,Zc,Zf,Zg];simp only[↓hcsGd6,entHg16,hcb,hr,bR_len,bR_at,bR_rest,bR_set,w6,w7,w8,go_sem];try simp only[hcb,hr,bR_len,bR_at,bR_rest,bR_set,w6,w7,w8,td,reduceCtorEq]
    refine ⟨⟨by omega,by omega,by omega,by omega,by show (b:Int)≤(L.length:Int);omega,by omega⟩,q+1,by omega,by omega,rfl,?_⟩;show _=bR k (maxI _ _) rest;unfold maxI;rw[Int.toNat_natCast]
   ·have hcb:¬(a=(k:Int)∧((k+1+q:Nat):Int)≤(b:Int)):=fun z=>hgo ⟨z.1,by omega⟩;dsimp only[x168_2,x168_2d,Z1,Z11,Za,Zb,Zc,Zf,Zg];simp only[↓hcsGd6,entHg16,hcb,w3,go_sem];try simp only[hcb,w3,td,reduceCtorEq]
    refine fun hbk=>⟨i+1,by omega,hi',rfl,?_⟩;rw[hts,List.foldl_append,hA];show _=bR k (rF (W,L,R) k rest acc (a,(b:Int),d)) rest;rw[hrf];by_cases hak:a=k
    ·rw[if_pos hak,if_pos hak,show q=b-k by have:=hbk hak;omega]
    ·rw[if_neg hak,if_neg hak]
  ·have hi0:¬(i:Int)<(R.length:Int):=by omega
   dsimp only[x168_1,x168_1d,Z5,Z9,Za,Zb,Zd,Zg];simp only[↓hcsGd6,entHg16,hi',hi0,go_sem];try simp only[hi',hi0,td,reduceCtorEq]
   refine ⟨k,by omega,by omega,i64_in _ (by omega),?_⟩;rw[hstep,aR_bR,List.take_of_length_le (by omega)];rfl
 |zero=>
  have e10:¬(((0:Nat):Int)-1)≥0:=by decide
  dsimp only[x168_0,x168_0d,Z1,Z2,Z3,Za,Zb,Zg];simp only[↓hcsGd6,entHg16,e10,aR_zero,go_sem];try simp only[e10,aR_zero,td,reduceCtorEq]
  rw[←hG,Nat.sub_zero]
def entGrd16:Ent:=⟨115,.cons Z11 .nil,.cons Z10 (.cons Z1 .nil),true,none,fun _=>True,fun x=>((guardF x.1).1,(guardF x.1).2,())⟩
def csGr6:List Ent:=[entRR16,entHg16,entGd16,entPl16,entHi16] theorem hcsGr6 (f:FuncId):findEnt csGr6 f=findEnt [entRR16,entHg16,entGd16,entPl16,entHi16] f:=rfl
set_option maxHeartbeats 4000000 in
theorem conGrd16:Con Tryz.prog entGrd16:=by
 refine con_is (C:=csGr6) x115 (by kernel_rfl) (by simp[csGr6,conRR16,conHg16,conGd16,conPl16,conHi16]) fun x hx hf=>?_;obtain ⟨⟨(W:List DWin),(L:List DLeg),(R:List DRide)⟩,_⟩:=x;dsimp only[entGrd16,x115,Z1,Z11,Za,Zb,Zd,Zf,Zg];simp only[↓hcsGr6,entRR16,entHg16,entGd16,entPl16,entHi16,go_sem];try simp only[td,reduceCtorEq]
 refine ⟨fun h=>by unfold guardF;rw[if_pos h],fun hr=>?_⟩;have hc:=(rightC_iff.1 hr).1;dsimp only at hc;have hps:∀k,_:=fun k=>psF_bd hr k;dsimp only at hps;refine XW_for 1000 x115_0d [0] Nat (fun j=>[(4,.val Z1 (j:Int))]) (fun _=>[]) (fun j=>j≤R.length∧∀k,k<j→lateR (W,L,R) (R.getD k (0,0,0))=false) (fun j=>R.length-j) 0 ?_ ?_ ?_
 ·dsimp only[x115_0d];simp only[go_sem];try trivial
 ·exact ⟨Nat.zero_le _,fun k hk=>absurd hk (Nat.not_lt_zero _)⟩
 rintro i ⟨hi,hm⟩;by_cases hi':i<R.length
 ·have w3:IntKind.i64.wrap ((i:Int)+1)=((i+1:Nat):Int):=i64_in _ (by omega);have hrd:=right_ride hr (k:=i) hi';have hmem:=getD_mem2 (d:=((0,0,0):DRide)) hi';generalize hS:R.getD i (0,0,0)=r at hrd hmem;obtain ⟨a,b,d⟩:=r;dsimp only at hrd;obtain ⟨a,rfl⟩:∃z:Nat,a=z:=⟨a.toNat,by omega⟩;obtain ⟨b,rfl⟩:∃z:Nat,b=z:=⟨b.toNat,by omega⟩;have hi0:(i:Int)<(R.length:Int):=by omega
  have hla:lateR (W,L,R) ((a:Int),(b:Int),d)=decide (d<psF L b-psF L a):=by
   unfold lateR;dsimp only;rw[Int.toNat_natCast,Int.toNat_natCast]
  have hp1:(0:Int)≤(a:Int):=by omega
  have hp2:(a:Int)≤(b:Int):=by omega
  have hp3:(b:Int)≤(L.length:Int):=by omega
  dsimp only[x115_0,x115_0d,Z1,Z11,Z5,Z9,Za,Zb,Zc,Zf,Zg];simp only[↓hcsGr6,entRR16,entHg16,entGd16,entPl16,entHi16,hi',hi0,hS,hr,hp1,hp2,hp3,w3,go_sem];try simp only[hi',hi0,hS,hr,hp1,hp2,hp3,w3,td,reduceCtorEq]
  refine ⟨fun h=>?_,fun h=>⟨i+1,by omega,⟨hi',fun k hk=>?_⟩,rfl⟩⟩
  ·unfold guardF;rw[if_neg (by rw[hr];simp),if_pos (late_any.2 ⟨_,hmem,by rw[hla];exact decide_eq_true h⟩)]
  ·by_cases c:k=i
   ·subst c;rw[hS,hla];exact decide_eq_false (by omega)
   ·exact hm k (by omega)
 have hnl:∀r∈R,lateR (W,L,R) r=false:=fun r hrm=>by
  obtain ⟨k,hk,rfl⟩:=List.getElem_of_mem hrm;have:=hm k (by omega);rwa [show R.getD k (0,0,0)=R[k] by simp[List.getD,hk]] at this
 have hi0:¬(i:Int)<(R.length:Int):=by omega
 have hfit:=gs_fits hr hnl;obtain ⟨_,hgl,hgw⟩:=fitsG_iff.1 hfit;dsimp only at hgl hgw;have hgu:guardF (W,L,R)=if inTime (W,L,R) (playF (gsF (W,L,R) W.length) (highsF L))=false then ([],20) else (gsF (W,L,R) W.length,0):=by
  unfold guardF;rw[if_neg (by rw[hr];simp),if_neg (fun z=>by obtain ⟨r,h1,h2⟩:=late_any.1 z;rw[hnl r h1] at h2;cases h2)]
 have hpl:(playF (gsF (W,L,R) W.length) (highsF L)).length=W.length:=by rw[playF_len,highs_len];omega
 dsimp only[x115_0,x115_0d,Z1,Z11,Z5,Z9,Za,Zb,Zc,Zf,Zg];simp only[↓hcsGr6,entRR16,entHg16,entGd16,entPl16,entHi16,hi',hi0,hr,go_sem];try simp only[hi',hi0,hr,td,reduceCtorEq]
 refine ⟨hnl,⟨by omega,⟨by rw[highs_len];omega,hgl,by omega⟩,hgw,highs_within hr⟩,?_⟩;generalize hP:playF (gsF (W,L,R) W.length) (highsF L)=P at hgu hpl;refine XW_for 5000 x115_1d [0] Nat (fun i=>[(7,.val Z1 (i:Int))]) (fun _=>[]) (fun i=>i≤P.length∧∀q,q<i→P.getD q 0≤(W.getD q (0,0)).2) (fun i=>P.length-i) 0 ?_ ?_ ?_
 ·dsimp only[x115_1d];simp only[go_sem];try trivial
 ·exact ⟨Nat.zero_le _,fun q hq=>absurd hq (Nat.not_lt_zero _)⟩
 rintro j ⟨hj,hn⟩;have w3:j<P.length→IntKind.i64.wrap ((j:Int)+1)=((j+1:Nat):Int):=fun _=>i64_in _ (by omega);dsimp only[x115_1,x115_1d,Z1,Z2,Z3,Za,Zb,Zc,Zf,Zg];simp only[↓hcsGr6,entRR16,entHg16,entGd16,entPl16,entHi16,go_sem];try simp only[td,reduceCtorEq]
 refine ⟨fun hj'=>⟨⟨hj',by omega⟩,fun h=>?_,fun h=>⟨j+1,by omega,⟨hj',fun q hq=>?_⟩,w3 hj'⟩⟩,fun hj'=>?_⟩
 ·rw[hgu,if_pos];rw[←Bool.not_eq_true];intro q;have:=inTime_iff.1 q j hj';dsimp only at this;omega
 ·by_cases c:q=j
  ·subst c;exact h
  ·exact hn q (by omega)
 ·rw[hgu,if_neg];rw[inTime_iff.2 fun q hq=>hn q (by omega)];simp
end T
end Go.Proofs.YtcnfmabhghhdnaaGreat
end
