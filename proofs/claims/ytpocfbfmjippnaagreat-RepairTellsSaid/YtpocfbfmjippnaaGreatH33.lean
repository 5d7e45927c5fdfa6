/- Parts of the proof of the law; no condition. -/
import Derived.Test.YtpocfbfmjippnaaGreatH35
set_option linter.all false
section
namespace Go.Proofs.YtpocfbfmjippnaaGreat
open Go.RowKit Go.IntWalk
namespace T
def entKs20:Ent:=⟨124,.cons Z18 (.cons Z5 .nil),.bool,false,none,fun x=>rightC x.1=true,fun x=>keeps20 x.1 x.2.1⟩
def csKs2:List Ent:=[entLs19,entHs19,entRun16,entKp16] theorem hcsKs2 (f:FuncId):findEnt csKs2 f=findEnt [entLs19,entHs19,entRun16,entKp16] f:=rfl
theorem conKs20:Con Tryz.prog entKs20:=by
 refine con_is (C:=csKs2) x124 (by kernel_rfl) (by simp[csKs2,conLs19,conHs19,conRun16,conKp16]) fun x hx hf=>?_;obtain ⟨⟨(W:List DWin),(L:List DLeg),(R:List DRide)⟩,(g:List Int),_⟩:=x;replace hx:rightC (W,L,R)=true:=hx;have hlen:=(rightC_iff.1 hx).1;dsimp only at hlen;have hLl:L.length≤1000:=by omega
 have hlo:(lowsF L).length=L.length:=lows_len L;have hhi:(highsF L).length=L.length:=highs_len L;have hLi:(L.length:Int)≤1000:=by omega
 have e0:cutF (W,L,R) g (lowsF L) (highsF L) 0=keepsF (W,L,R) (rnF (W,L,R) g (highsF L)).1:=by unfold cutF;rw[List.take_zero,List.drop_zero,List.nil_append]
 have e1:cutF (W,L,R) g (lowsF L) (highsF L) L.length=keepsF (W,L,R) (rnF (W,L,R) g (lowsF L)).1:=by unfold cutF;rw[List.take_of_length_le (by omega),List.drop_of_length_le (by omega),List.append_nil]
 dsimp only[entKs20,x124];simp only[↓hcsKs2,entLs19,entHs19,entRun16,entKp16,undef,hLl,hlo,hhi,go_sem];try simp only[hLl,hlo,hhi,td,reduceCtorEq]
 have hz:keeps20 (W,L,R) g=((keepsF (W,L,R) (rnF (W,L,R) g (highsF L)).1&&keepsF (W,L,R) (rnF (W,L,R) g (lowsF L)).1)&&R.all fun r=>cutF (W,L,R) g (lowsF L) (highsF L) r.1.toNat):=by rw[←e0,←e1];rfl
 refine ⟨fun h=>?_,fun h=>?_⟩
 ·rw[hz];rcases h with h|h
  ·rw[h,Bool.and_false];rfl
  ·rw[h];rfl
 rw[h.1,h.2,Bool.true_and,Bool.true_and] at hz;refine XW_for 1000 x124_0d [0] Nat (fun i=>[(11,.val Z1 (i:Int))]) (fun _=>[]) (fun i=>i≤R.length∧∀k,k<i→cutF (W,L,R) g (lowsF L) (highsF L) (R.getD k (0,0,0)).1.toNat=true) (fun i=>R.length-i) 0 ?_ ?_ ?_
 ·dsimp only[x124_0d];simp only[go_sem];try trivial
 ·exact ⟨Nat.zero_le _,fun k hk=>absurd hk (Nat.not_lt_zero _)⟩
 rintro i ⟨hi,hm⟩;by_cases hil:i<R.length
 ·have w2:IntKind.i64.wrap ((i:Int)+1)=((i+1:Nat):Int):=i64_in _ (by omega);have hrd:=right_ride hx (k:=i) hil;have hall:cutF (W,L,R) g (lowsF L) (highsF L) (R.getD i (0,0,0)).1.toNat=false→keeps20 (W,L,R) g=false:=fun h=>by
   rw[hz,List.all_eq_false];exact ⟨_,getD_mem2 (d:=(0,0,0)) hil,by rw[h];simp⟩
  dsimp only at hrd;generalize hrr:R.getD i (0,0,0)=rr at hrd hall;obtain ⟨r1,r2,r3⟩:=rr;dsimp only at hrd hall;obtain ⟨r1,rfl⟩:∃z:Nat,r1=z:=⟨r1.toNat,by omega⟩;rw[Int.toNat_natCast] at hall;have hr2:(r1:Int)≤(L.length:Int):=by omega
  have hr3:r1≤L.length:=by omega
  have ht:(highsF L).take L.length=highsF L:=List.take_of_length_le (by omega);dsimp only[x124_0,x124_0d];simp only[↓hcsKs2,entLs19,entHs19,entRun16,entKp16,undef,hil,w2,hrr,hLl,hlo,hhi,hr2,hr3,ht,go_sem];try simp only[hil,w2,hrr,hLl,hlo,hhi,hr2,hr3,ht,td,reduceCtorEq]
  have l1:((lowsF L).take r1).length≤1000:=by rw[List.length_take];omega
  have l2:((highsF L).drop r1).length≤1000:=by rw[List.length_drop];omega
  refine ⟨⟨Int.le_refl _,by omega,Int.le_refl _,by omega⟩,fun h=>?_,fun h=>⟨i+1,by omega,⟨by omega,fun k hk=>?_⟩,rfl⟩⟩
  ·exact (hall h).symm
  ·rcases Nat.lt_or_ge k i with q|q
   ·exact hm k q
   ·rw[show k=i by omega,hrr];exact h
 ·obtain rfl:i=R.length:=by omega
  have hz2:keeps20 (W,L,R) g=true:=by
   rw[hz,List.all_eq_true];intro r hrm;obtain ⟨k,hk,rfl⟩:=List.getElem_of_mem hrm;have h1:=hm k hk;have:R.getD k (0,0,0)=R[k]:=by simp[List.getD,hk]
   rw[this] at h1;exact h1
  dsimp only[x124_0,x124_0d];simp only[↓hcsKs2,entLs19,entHs19,entRun16,entKp16,undef,hil,hz2,go_sem];try simp only[hil,hz2,td,reduceCtorEq]
def entGd16:Ent:=⟨206,.cons Z18 .nil,Z5,false,none,fun x=>rightC x.1=true∧∀r∈(x.1:DChain).2.2,lateR x.1 r=false,fun x=>gsF x.1 (x.1:DChain).1.length⟩
def csGd6:List Ent:=[entHg16] theorem hcsGd6 (f:FuncId):findEnt csGd6 f=findEnt [entHg16] f:=rfl
set_option maxHeartbeats 4000000 in
theorem conGd16:Con Tryz.prog entGd16:=by
 refine con_is (C:=csGd6) x206 (by kernel_rfl) (by simp[csGd6,conHg16]) fun x hx hf=>?_;obtain ⟨⟨(W:List DWin),(L:List DLeg),(R:List DRide)⟩,_⟩:=x;obtain ⟨hr,hnl⟩:=hx;have hr:rightC (W,L,R)=true:=hr;have hnl:∀r∈R,lateR (W,L,R) r=false:=hnl;have hc:=(rightC_iff.1 hr).1;dsimp only at hc;have w4:IntKind.i64.wrap ((W.length:Int)-1)=(W.length:Int)-1:=i64_in _ (by omega);dsimp only[entGd16,x206];simp only[↓hcsGd6,entHg16,w4,go_sem];try simp only[w4,td,reduceCtorEq]
 have hgl:∀p,(gsF (W,L,R) (W.length-p)).length=W.length-p:=fun p=>gsF_len _ _;have hgb:∀p,Within 0 (85983232*(((W.length-p:Nat):Int)+1)) (gsF (W,L,R) (W.length-p)):=fun p=>gs_bd hr _ (Nat.sub_le _ _);refine ⟨by show (8:Int)*(W.length:Int)≤_;omega,?_⟩;refine XW_for 2000 x206_0d [0,1] Nat (fun p=>[(5,.val Z1 ((p:Int)-1))]) (fun p=>[(7,.row 3 (.int .i64) (aR p (gsF (W,L,R) (W.length-p))))]) (fun p=>p≤W.length) (fun p=>p) W.length ?_ ?_ ?_
 ·dsimp only[x206_0d];simp only[go_sem];rw[Nat.sub_self];exact (List.append_nil _).symm
 ·exact Nat.le_refl _
 intro p hp;have hrest:=hgl p;have hrb:=hgb p;generalize hG:gsF (W,L,R) (W.length-p)=rest at hrest hrb;cases p with
 |succ k=>
  have e9:((k+1:Nat):Int)-1=(k:Int):=by omega
  have e10:(k:Int)≥0:=by omega
  dsimp only[x206_0,x206_0d];simp only[↓hcsGd6,entHg16,e9,e10,aR_set,aR_len,go_sem];try simp only[e9,e10,aR_set,aR_len,td,reduceCtorEq]
  refine ⟨⟨by omega,by omega⟩,?_⟩;have hk:k<W.length:=by omega
  have hstep:=gs_step (W,L,R) (k:=k) hk;rw[hG] at hstep;have hfp:∀i,0≤(R.take i).foldl (rF (W,L,R) k rest) (W.getD k (0,0)).1∧(R.take i).foldl (rF (W,L,R) k rest) (W.getD k (0,0)).1≤85983232*(((W.length-(k+1):Nat):Int)+1)+85983232:=fun i=>by
   have h2:=right_win hr (k:=k) hk;dsimp only at h2;exact fold_bd hr (by omega) hrb (R.take i) (fun r hr=>List.mem_of_mem_take hr) _ h2.1 (by omega)
  refine XW_for 3000 x206_1d [0,1] Nat (fun i=>[(6,.val Z1 (i:Int))]) (fun i=>[(7,.row 3 (.int .i64) (bR k ((R.take i).foldl (rF (W,L,R) k rest) (W.getD k (0,0)).1) rest))]) (fun i=>i≤R.length) (fun i=>R.length-i) 0 ?_ ?_ ?_
  ·dsimp only[x206_1d];simp only[go_sem];exact ⟨rfl,rfl⟩
  ·exact Nat.zero_le _
  intro i hi;by_cases hi':i<R.length
  ·have w3:IntKind.i64.wrap ((i:Int)+1)=((i+1:Nat):Int):=i64_in _ (by omega);have w5:IntKind.i64.wrap ((k:Int)+1)=((k+1:Nat):Int):=i64_in _ (by omega);have hrd:=right_ride hr (k:=i) hi';have hts:R.take (i+1)=R.take i++[R.getD i (0,0,0)]:=by
    rw[List.take_succ_eq_append_getElem hi'];simp[List.getD,hi']
   have hfi:=hfp i;have hmem:=getD_mem2 (d:=((0,0,0):DRide)) hi';generalize hS:R.getD i (0,0,0)=r at hrd hts hmem;generalize hA:(R.take i).foldl (rF (W,L,R) k rest) (W.getD k (0,0)).1=acc at hfi;obtain ⟨a,b,d⟩:=r;dsimp only at hrd;obtain ⟨b,rfl⟩:∃z:Nat,b=z:=⟨b.toNat,by omega⟩;have hi0:(i:Int)<(R.length:Int):=by omega
   dsimp only[x206_1,x206_1d];simp only[↓hcsGd6,entHg16,hi',hi0,hS,hA,w3,w5,go_sem];try simp only[hi',hi0,hS,hA,w3,w5,td,reduceCtorEq]
   have hrf:rF (W,L,R) k rest acc (a,(b:Int),d)=if a=k then mF (W,L,R) k rest (a,(b:Int),d) acc (b-k) else acc:=by
    unfold rF;dsimp only;rw[Int.toNat_natCast]
   have hmb:a=k→∀q,q≤b-k→0≤mF (W,L,R) k rest (a,(b:Int),d) acc q∧mF (W,L,R) k rest (a,(b:Int),d) acc q≤85983232*(((W.length-(k+1):Nat):Int)+1)+85983232:=fun e=>by
    have h1:=mF_bd hr hmem e (by omega) hrb hfi.1 hfi.2;dsimp only at h1;rw[Int.toNat_natCast] at h1;exact h1
   refine XW_for 4000 x206_2d [0,1,3010] Nat (fun q=>[(8,.val Z1 ((k+1+q:Nat):Int))]) (fun q=>[(7,.row 3 (.int .i64) (bR k (if a=k then mF (W,L,R) k rest (a,(b:Int),d) acc q else acc) rest))]) (fun q=>(q≤b-k)∧(a≠k→q=0)) (fun q=>b-k-q) 0 ?_ ?_ ?_
   ·dsimp only[x206_2d];simp only[go_sem];split<;>rfl
   ·exact ⟨Nat.zero_le _,fun _=>rfl⟩
   rintro q ⟨hq,hq0⟩;by_cases hgo:a=k∧q<b-k
   ·obtain ⟨hak,hq'⟩:=hgo;subst hak;have w6:IntKind.i64.wrap (((k+1+q:Nat):Int)+1)=((k+1+(q+1):Nat):Int):=(i64_in _ (by omega)).trans (by omega);have hcb:((k+1+q:Nat):Int)≤(b:Int):=by omega
    have hmq:=hmb rfl q (by omega);have hrq:=hrb.getD (by omega) (by omega) q;have hpm:=psF_mono hr (a:=k+1+q) (b:=b) (by omega);dsimp only at hpm;have w7:IntKind.i64.wrap (rest.getD q 0+(psF L b-psF L (k+1+q)))=rest.getD q 0+(psF L b-psF L (k+1+q)):=i64_in _ (by omega);have w8:IntKind.i64.wrap (rest.getD q 0+(psF L b-psF L (k+1+q))-d)=rest.getD q 0+(psF L b-psF L (k+1+q))-d:=i64_in _ (by omega);dsimp only[x206_2,x206_2d];simp only[↓hcsGd6,entHg16,hcb,hr,bR_len,bR_at,bR_rest,bR_set,w6,w7,w8,go_sem];try simp only[hcb,hr,bR_len,bR_at,bR_rest,bR_set,w6,w7,w8,td,reduceCtorEq]
    refine ⟨⟨by omega,by omega,by omega,by omega,by show (b:Int)≤(L.length:Int);omega,by omega⟩,q+1,by omega,by omega,rfl,?_⟩;show _=bR k (maxI _ _) rest;unfold maxI;rw[Int.toNat_natCast]
   ·have hcb:¬(a=(k:Int)∧((k+1+q:Nat):Int)≤(b:Int)):=fun z=>hgo ⟨z.1,by omega⟩;dsimp only[x206_2,x206_2d];simp only[↓hcsGd6,entHg16,hcb,w3,go_sem];try simp only[hcb,w3,td,reduceCtorEq]
    refine fun hbk=>⟨i+1,by omega,hi',rfl,?_⟩;rw[hts,List.foldl_append,hA];show _=bR k (rF (W,L,R) k rest acc (a,(b:Int),d)) rest;rw[hrf];by_cases hak:a=k
    ·rw[if_pos hak,if_pos hak,show q=b-k by have:=hbk hak;omega]
    ·rw[if_neg hak,if_neg hak]
  ·have hi0:¬(i:Int)<(R.length:Int):=by omega
   dsimp only[x206_1,x206_1d];simp only[↓hcsGd6,entHg16,hi',hi0,go_sem];try simp only[hi',hi0,td,reduceCtorEq]
   refine ⟨k,by omega,by omega,i64_in _ (by omega),?_⟩;rw[hstep,aR_bR,List.take_of_length_le (by omega)];rfl
 |zero=>
  have e10:¬(((0:Nat):Int)-1)≥0:=by decide
  dsimp only[x206_0,x206_0d];simp only[↓hcsGd6,entHg16,e10,aR_zero,go_sem];try simp only[e10,aR_zero,td,reduceCtorEq]
  rw[←hG,Nat.sub_zero]
def entGrd16:Ent:=⟨178,.cons Z18 .nil,.cons Z5 (.cons Z1 .nil),true,none,fun _=>True,fun x=>((guardF x.1).1,(guardF x.1).2,())⟩
def csGr6:List Ent:=[entRR16,entHg16,entGd16,entPl16,entHi16] theorem hcsGr6 (f:FuncId):findEnt csGr6 f=findEnt [entRR16,entHg16,entGd16,entPl16,entHi16] f:=rfl
set_option maxHeartbeats 4000000 in
theorem conGrd16:Con Tryz.prog entGrd16:=by
 refine con_is (C:=csGr6) x178 (by kernel_rfl) (by simp[csGr6,conRR16,conHg16,conGd16,conPl16,conHi16]) fun x hx hf=>?_;obtain ⟨⟨(W:List DWin),(L:List DLeg),(R:List DRide)⟩,_⟩:=x;dsimp only[entGrd16,x178];simp only[↓hcsGr6,entRR16,entHg16,entGd16,entPl16,entHi16,go_sem];try simp only[td,reduceCtorEq]
 refine ⟨fun h=>by unfold guardF;rw[if_pos h],fun hr=>?_⟩;have hc:=(rightC_iff.1 hr).1;dsimp only at hc;have hps:∀k,_:=fun k=>psF_bd hr k;dsimp only at hps;refine XW_for 1000 x178_0d [0] Nat (fun j=>[(4,.val Z1 (j:Int))]) (fun _=>[]) (fun j=>j≤R.length∧∀k,k<j→lateR (W,L,R) (R.getD k (0,0,0))=false) (fun j=>R.length-j) 0 ?_ ?_ ?_
 ·dsimp only[x178_0d];simp only[go_sem];try trivial
 ·exact ⟨Nat.zero_le _,fun k hk=>absurd hk (Nat.not_lt_zero _)⟩
 rintro i ⟨hi,hm⟩;by_cases hi':i<R.length
 ·have w3:IntKind.i64.wrap ((i:Int)+1)=((i+1:Nat):Int):=i64_in _ (by omega);have hrd:=right_ride hr (k:=i) hi';have hmem:=getD_mem2 (d:=((0,0,0):DRide)) hi';generalize hS:R.getD i (0,0,0)=r at hrd hmem;obtain ⟨a,b,d⟩:=r;dsimp only at hrd;obtain ⟨a,rfl⟩:∃z:Nat,a=z:=⟨a.toNat,by omega⟩;obtain ⟨b,rfl⟩:∃z:Nat,b=z:=⟨b.toNat,by omega⟩;have hi0:(i:Int)<(R.length:Int):=by omega
  have hla:lateR (W,L,R) ((a:Int),(b:Int),d)=decide (d<psF L b-psF L a):=by
   unfold lateR;dsimp only;rw[Int.toNat_natCast,Int.toNat_natCast]
  have hp1:(0:Int)≤(a:Int):=by omega
  have hp2:(a:Int)≤(b:Int):=by omega
  have hp3:(b:Int)≤(L.length:Int):=by omega
  dsimp only[x178_0,x178_0d];simp only[↓hcsGr6,entRR16,entHg16,entGd16,entPl16,entHi16,hi',hi0,hS,hr,hp1,hp2,hp3,w3,go_sem];try simp only[hi',hi0,hS,hr,hp1,hp2,hp3,w3,td,reduceCtorEq]
  refine ⟨fun h=>?_,fun h=>⟨i+1,by omega,⟨hi',fun k hk=>?_⟩,rfl⟩⟩
  ·unfold guardF;rw[if_neg (by rw[hr];simp),if_pos (late_any.2 ⟨_,hmem,by rw[hla];exact decide_eq_true h⟩)]
  ·by_cases c:k=i
   ·subst c;rw[hS,hla];exact decide_eq_false (by omega)
   ·exact hm k (by omega)
 have hnl:∀r∈R,lateR (W,L,R) r=false:=fun r hrm=>by
  obtain ⟨k,hk,rfl⟩:=List.getElem_of_mem hrm;have:=hm k (by omega);rwa [show R.getD k (0,0,0)=R[k] by simp[List.getD,hk]] at this
 have hi0:¬(i:Int)<(R.length:Int):=by omega
 have hfit:=gs_fits hr hnl;obtain ⟨_,hgl,hgw⟩:=fitsG_iff.1 hfit;dsimp only at hgl hgw;have hgu:guardF (W,L,R)=if inTime (W,L,R) (playF (gsF (W,L,R) W.length) (highsF L))=false then ([],20) else (gsF (W,L,R) W.length,0):=by
  unfold guardF;rw[if_neg (by rw[hr];simp),if_neg (fun z=>by obtain ⟨r,h1,h2⟩:=late_any.1 z;rw[hnl r h1] at h2;cases h2)]
 have hpl:(playF (gsF (W,L,R) W.length) (highsF L)).length=W.length:=by rw[playF_len,highs_len];omega
 dsimp only[x178_0,x178_0d];simp only[↓hcsGr6,entRR16,entHg16,entGd16,entPl16,entHi16,hi',hi0,hr,go_sem];try simp only[hi',hi0,hr,td,reduceCtorEq]
 refine ⟨hnl,⟨by omega,⟨by rw[highs_len];omega,hgl,by omega⟩,hgw,highs_within hr⟩,?_⟩;generalize hP:playF (gsF (W,L,R) W.length) (highsF L)=P at hgu hpl;refine XW_for 5000 x178_1d [0] Nat (fun i=>[(7,.val Z1 (i:Int))]) (fun _=>[]) (fun i=>i≤P.length∧∀q,q<i→P.getD q 0≤(W.getD q (0,0)).2) (fun i=>P.length-i) 0 ?_ ?_ ?_
 ·dsimp only[x178_1d];simp only[go_sem];try trivial
 ·exact ⟨Nat.zero_le _,fun q hq=>absurd hq (Nat.not_lt_zero _)⟩
 rintro j ⟨hj,hn⟩;have w3:j<P.length→IntKind.i64.wrap ((j:Int)+1)=((j+1:Nat):Int):=fun _=>i64_in _ (by omega);dsimp only[x178_1,x178_1d];simp only[↓hcsGr6,entRR16,entHg16,entGd16,entPl16,entHi16,go_sem];try simp only[td,reduceCtorEq]
 refine ⟨fun hj'=>⟨⟨hj',by omega⟩,fun h=>?_,fun h=>⟨j+1,by omega,⟨hj',fun q hq=>?_⟩,w3 hj'⟩⟩,fun hj'=>?_⟩
 ·rw[hgu,if_pos];rw[←Bool.not_eq_true];intro q;have:=inTime_iff.1 q j hj';dsimp only at this;omega
 ·by_cases c:q=j
  ·subst c;exact h
  ·exact hn q (by omega)
 ·rw[hgu,if_neg];rw[inTime_iff.2 fun q hq=>hn q (by omega)];simp
theorem begF_eq (w:DWorld) (c:Int) (ss:List DStop):begF w c ss=if asksF w c ss=false then (noChain,1) else if (fitsF (carLoad (carAt w c)) ss w.2.2.2.1).2≠0 then (noChain,27) else if togF w.2.2.2.2.1 ss w.2.2.2.1=false then (noChain,30) else chainF w c ss:=rfl
def entMkR:Ent:=⟨127,.cons Z21 (.cons Z1 (.cons Z15 .nil)),.cons Z22 (.cons Z1 .nil),true,none,fun _=>True,fun x=>((makeF x.1 x.2.1 x.2.2.1).1,(makeF x.1 x.2.1 x.2.2.1).2,())⟩
def csMkR:List Ent:=[entAs20,entRFits,entRTog,entChR,entGrd16,entWt20,entCk19] theorem hcsMkR (f:FuncId):findEnt csMkR f=findEnt [entAs20,entRFits,entRTog,entChR,entGrd16,entWt20,entCk19] f:=rfl
set_option maxHeartbeats 1000000 in
theorem conMkR:Con Tryz.prog entMkR:=by
 refine con_is (C:=csMkR) x127 (by kernel_rfl) (by simp[csMkR,conAs20,conRFits,conRTog,conChR,conGrd16,conWt20,conCk19]) fun x hx hf=>?_;obtain ⟨⟨(N:Int),(A:List DArc),(C:List DCar),(Q:List DReq),(P:List DPair),(S1:Int),(S2:Int),(S3:Int)⟩,(c:Int),(ss:List DStop),_⟩:=x;have hz:=makeF_eq (N,A,C,Q,P,S1,S2,S3) c ss;have hb:=begF_eq (N,A,C,Q,P,S1,S2,S3) c ss;cases ha:asksF (N,A,C,Q,P,S1,S2,S3) c ss with
 |false=>
  rw[if_pos ha] at hb;rw[hb] at hz;dsimp only at hz;rw[if_pos (by decide)] at hz;dsimp only[entMkR,x127];simp only[↓hcsMkR,entAs20,entRFits,entRTog,entChR,entGrd16,entWt20,entCk19,undef,ha,hz,go_sem];try simp only[ha,hz,td,reduceCtorEq]
  all_goals rfl
 |true=>
  rw[if_neg (by rw[ha];simp)] at hb;obtain ⟨hw,hc,hss⟩:=asks_iff.1 ha;dsimp only at hc hss;have hL80:ss.length≤80:=hss.1.1;obtain ⟨c,rfl⟩:∃z:Nat,c=z:=⟨c.toNat,by omega⟩;have hcl:c<C.length:=by omega
  have hca:carAt (N,A,C,Q,P,S1,S2,S3) (c:Int)=C.getD c (0,0,0,0,0,0,0,0,0):=rfl;rw[hca] at hb;dsimp only at hb;have h16:((0:Nat)+ss.length)*16≤140737488355328:=by omega
  generalize hfe:fitsF (carLoad (C.getD c (0,0,0,0,0,0,0,0,0))) ss Q=fe at hb;obtain ⟨f1,f2⟩:=fe;dsimp only at hb;by_cases hf2:f2=0
  ·subst hf2;rw[if_neg (by simp)] at hb;cases ht:togF P ss Q with
   |false=>
    rw[if_pos ht] at hb;rw[hb] at hz;dsimp only at hz;rw[if_pos (by decide)] at hz;dsimp only[entMkR,x127];simp only[↓hcsMkR,entAs20,entRFits,entRTog,entChR,entGrd16,entWt20,entCk19,undef,ha,hcl,hfe,ht,hz,go_sem];try simp only[ha,hcl,hfe,ht,hz,td,reduceCtorEq]
    all_goals rfl
   |true=>
    rw[if_neg (by rw[ht];simp)] at hb;generalize hch:chainF (N,A,C,Q,P,S1,S2,S3) (c:Int) ss=be at hb;rw[hb] at hz;obtain ⟨⟨W,L,R⟩,e⟩:=be;dsimp only at hz;by_cases he:e=0
    ·subst he;rw[if_neg (by simp)] at hz;generalize hg:guardF (W,L,R)=gu at hz;obtain ⟨gd,e⟩:=gu;dsimp only at hz;by_cases he:e=0
     ·subst he;have hfit:fitsG (W,L,R) gd=true:=by have:=guard_fits (c:=(W,L,R)) (by rw[hg]);rwa [hg] at this
      rw[if_neg (by simp)] at hz;have hrs:restsF (N,A,C,Q,P,S1,S2,S3) (W,L,R) gd=decide ((checkK (S1,S2,S3) L (waitsF (W,L,R) gd)).2=0):=rfl;rw[hrs] at hz;generalize hck:checkK (S1,S2,S3) L (waitsF (W,L,R) gd)=ck at hz;obtain ⟨k1,k2⟩:=ck;dsimp only at hz;by_cases hk:k2=0
      ·subst hk;rw[if_neg (by simp)] at hz;dsimp only[entMkR,x127];simp only[↓hcsMkR,entAs20,entRFits,entRTog,entChR,entGrd16,entWt20,entCk19,undef,ha,hcl,hfe,ht,hch,hg,hfit,hck,h16,hz,go_sem];try simp only[ha,hcl,hfe,ht,hch,hg,hfit,hck,h16,hz,td,reduceCtorEq]
       all_goals rfl
      ·rw[if_pos (decide_eq_false hk)] at hz;dsimp only[entMkR,x127];simp only[↓hcsMkR,entAs20,entRFits,entRTog,entChR,entGrd16,entWt20,entCk19,undef,ha,hcl,hfe,ht,hch,hg,hfit,hck,hk,hz,go_sem];try simp only[ha,hcl,hfe,ht,hch,hg,hfit,hck,hk,hz,td,reduceCtorEq]
       all_goals rfl
     ·rw[if_pos he] at hz;dsimp only[entMkR,x127];simp only[↓hcsMkR,entAs20,entRFits,entRTog,entChR,entGrd16,entWt20,entCk19,undef,ha,hcl,hfe,ht,hch,hg,he,hz,go_sem];try simp only[ha,hcl,hfe,ht,hch,hg,he,hz,td,reduceCtorEq]
      all_goals rfl
    ·rw[if_pos he] at hz;dsimp only[entMkR,x127];simp only[↓hcsMkR,entAs20,entRFits,entRTog,entChR,entGrd16,entWt20,entCk19,undef,ha,hcl,hfe,ht,hch,he,hz,go_sem];try simp only[ha,hcl,hfe,ht,hch,he,hz,td,reduceCtorEq]
     all_goals rfl
  ·rw[if_pos hf2] at hb;rw[hb] at hz;dsimp only at hz;rw[if_pos (by decide)] at hz;dsimp only[entMkR,x127];simp only[↓hcsMkR,entAs20,entRFits,entRTog,entChR,entGrd16,entWt20,entCk19,undef,ha,hcl,hfe,hf2,hz,go_sem];try simp only[ha,hcl,hfe,hf2,hz,td,reduceCtorEq]
   all_goals rfl
end T
end Go.Proofs.YtpocfbfmjippnaaGreat
end
