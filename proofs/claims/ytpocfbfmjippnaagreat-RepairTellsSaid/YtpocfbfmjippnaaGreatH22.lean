/- Parts of the proof of the law; no condition. -/
import Derived.Test.YtpocfbfmjippnaaGreatH12
set_option linter.all false
section
namespace Go.Proofs.YtpocfbfmjippnaaGreat
open Go.RowKit Go.IntWalk
namespace T
def entHigh:Ent:=⟨101,.cons Z1 (.cons Z1 (.cons Z32 .nil)),(.int .i64),false,none,fun x=>((0≤(x.1:Int)∧(x.1:Int)<List.length (α:=Int) x.2.2.1)∧0≤(x.2.1:Int)∧(x.2.1:Int)<List.length (α:=Int) x.2.2.1)∧Within 0 1000000000 x.2.2.1,fun x=>List.getD (α:=Int) x.2.2.1 (x.2.1:Int).toNat 0-List.getD (α:=Int) x.2.2.1 (x.1:Int).toNat 0⟩
def csHg:List Ent:=[] theorem hcsHg (f:FuncId):findEnt csHg f=findEnt [] f:=rfl
theorem conHigh:Con Tryz.prog entHigh:=by
 refine con_is (C:=csHg) x101 (by kernel_rfl) (by simp[csHg]) fun x hx hf=>?_;obtain ⟨(a:Int),(b:Int),(S:List Int),_⟩:=x;obtain ⟨⟨⟨h1,h2⟩,h3,h4⟩,hw⟩:=hx;have h1:0≤a:=h1;have h2:a<(S.length:Int):=h2;have h3:0≤b:=h3;have h4:b<(S.length:Int):=h4;have hw:Within 0 1000000000 S:=hw;have w1:=hw.getD (Int.le_refl _) (by omega) a.toNat;have w2:=hw.getD (Int.le_refl _) (by omega) b.toNat;dsimp only[entHigh,x101];simp only[↓hcsHg,go_sem];try simp only[td,reduceCtorEq]
 exact ⟨⟨⟨h3,h4⟩,h1,h2⟩,i64_in _ (by omega)⟩
def entGrd:Ent:=⟨56,.cons Z18 .nil,.cons Z5 (.cons Z1 .nil),true,none,fun _=>True,fun x=>((guardF x.1).1,(guardF x.1).2,())⟩
def csGr:List Ent:=[entRctR,entWorst,entHigh] theorem hcsGr (f:FuncId):findEnt csGr f=findEnt [entRctR,entWorst,entHigh] f:=rfl
set_option maxHeartbeats 4000000 in
theorem conGrd:Con Tryz.prog entGrd:=by
 refine con_isM (C:=csGr) z56 (by kernel_rfl) (by simp[csGr,conRctR,conWorst,conHigh]) fun x hx hf=>?_;obtain ⟨⟨(W:List DWin),(L:List DLeg),(R:List DRide)⟩,_⟩:=x;dsimp only[entGrd,z56];simp only[↓hcsGr,entRctR,entWorst,entHigh,go_sem];try simp only[td,reduceCtorEq]
 refine ⟨fun h=>by unfold guardF;rw[if_pos h],fun hr=>?_⟩;have hc:=(rightC_iff.1 hr).1;dsimp only at hc;have hps:∀k,_:=fun k=>psF_bd hr k;dsimp only at hps;have hlr:∀k,((List.range (k+1)).map (psF L)).length=k+1:=fun k=>by rw[List.length_map,List.length_range]
 refine XW_for 1000 z56_0d [0,1] Nat (fun j=>[(24,.val Z1 (j:Int))]) (fun j=>[(7,.box 31 [.own 6]),(6,.row 3 (.int .i64) ((List.range (j+1)).map (psF L)))]) (fun j=>j≤L.length) (fun j=>L.length-j) 0 ?_ ?_ ?_
 ·dsimp only[z56_0d];simp only[go_sem];exact ⟨rfl,rfl⟩
 ·exact Nat.zero_le _
 intro j hj;by_cases hj':j<L.length
 ·have w2:IntKind.i64.wrap ((j:Int)+1)=((j+1:Nat):Int):=i64_in _ (by omega);have w3:IntKind.i64.wrap (((j+1:Nat):Int)-1)=(j:Int):=(i64_in _ (by omega)).trans (by omega);have hgd:((List.range (j+1)).map (psF L)).getD j 0=psF L j:=range_getD _ (by omega);dsimp only[z56_0,z56_0d];simp only[↓hcsGr,entRctR,entWorst,entHigh,hj',hlr,hgd,w2,w3,go_sem];try simp only[hj',hlr,hgd,w2,w3,td,reduceCtorEq]
  exact ⟨⟨by omega,by omega,by omega⟩,j+1,by omega,hj',rfl,by
   have h1:=hps j;have h2:=right_leg hr (k:=j) hj';dsimp only at h2;rw[i64_in (psF L j+(L.getD j (0,0)).2) (by omega)];exact range_snoc (psF L) (j+1)⟩
 obtain rfl:j=L.length:=by omega
 dsimp only[z56_0,z56_0d];simp only[↓hcsGr,entRctR,entWorst,entHigh,go_sem];simp only[hj',td,reduceCtorEq];rw[List.length_replicate];have w4:IntKind.i64.wrap ((W.length:Int)-1)=(W.length:Int)-1:=i64_in _ (by omega);rw[w4];refine ⟨by show (8:Int)*(W.length:Int)≤_;omega,?_⟩;have hgl:∀p,(gsF (W,L,R) (W.length-p)).length=W.length-p:=fun p=>gsF_len _ _;have hgb:∀p,Within 0 (85983232*(((W.length-p:Nat):Int)+1)) (gsF (W,L,R) (W.length-p)):=fun p=>gs_bd hr _ (Nat.sub_le _ _);refine XW_for 2000 z56_1d [0,7,6] Nat (fun p=>[(9,.val Z1 ((p:Int)-1))]) (fun p=>[(1006,.row 3 (.int .i64) (aR p (gsF (W,L,R) (W.length-p))))]) (fun p=>p≤W.length∧∀r∈R,(p:Int)≤r.1→lateR (W,L,R) r=false) (fun p=>p) W.length ?_ ?_ ?_
 ·dsimp only[z56_1d];simp only[go_sem];rw[Nat.sub_self];exact (List.append_nil _).symm
 ·refine ⟨Nat.le_refl _,fun r hrm hr2=>?_⟩;have:=(rightC_iff.1 hr).2.2.2 r hrm;dsimp only at this;omega
 rintro p ⟨hp,hnl⟩;have hrest:=hgl p;have hrb:=hgb p;generalize hG:gsF (W,L,R) (W.length-p)=rest at hrest hrb;cases p with
 |succ k=>
  have e9:((k+1:Nat):Int)-1=(k:Int):=by omega
  have e10:(k:Int)≥0:=by omega
  dsimp only[z56_1,z56_1d];simp only[↓hcsGr,entRctR,entWorst,entHigh,e9,e10,aR_set,aR_len,go_sem];try simp only[e9,e10,aR_set,aR_len,td,reduceCtorEq]
  refine ⟨⟨by omega,by omega⟩,?_⟩;have hk:k<W.length:=by omega
  have hstep:=gs_step (W,L,R) (k:=k) hk;rw[hG] at hstep;have hfp:∀i,0≤(R.take i).foldl (rF (W,L,R) k rest) (W.getD k (0,0)).1∧(R.take i).foldl (rF (W,L,R) k rest) (W.getD k (0,0)).1≤85983232*(((W.length-(k+1):Nat):Int)+1)+85983232:=fun i=>by
   have h2:=right_win hr (k:=k) hk;dsimp only at h2;exact fold_bd hr (by omega) hrb (R.take i) (fun r hr=>List.mem_of_mem_take hr) _ h2.1 (by omega)
  refine XW_for 3000 z56_2d [0,7,6] Nat (fun i=>[(65,.val Z1 (i:Int))]) (fun i=>[(1006,.row 3 (.int .i64) (bR k ((R.take i).foldl (rF (W,L,R) k rest) (W.getD k (0,0)).1) rest))]) (fun i=>i≤R.length∧∀q,q<i→(R.getD q (0,0,0)).1=k→lateR (W,L,R) (R.getD q (0,0,0))=false) (fun i=>R.length-i) 0 ?_ ?_ ?_
  ·dsimp only[z56_2d];simp only[go_sem];exact ⟨rfl,rfl⟩
  ·exact ⟨Nat.zero_le _,fun q hq=>absurd hq (Nat.not_lt_zero _)⟩
  rintro i ⟨hi,hm⟩;by_cases hi':i<R.length
  ·have w3:IntKind.i64.wrap ((i:Int)+1)=((i+1:Nat):Int):=i64_in _ (by omega);have hrd:=right_ride hr (k:=i) hi';have hts:R.take (i+1)=R.take i++[R.getD i (0,0,0)]:=by
    rw[List.take_succ_eq_append_getElem hi'];simp[List.getD,hi']
   have hfi:=hfp i;have hmem:=getD_mem2 (d:=((0,0,0):DRide)) hi';generalize hS:R.getD i (0,0,0)=r at hrd hts hmem;generalize hA:(R.take i).foldl (rF (W,L,R) k rest) (W.getD k (0,0)).1=acc at hfi;obtain ⟨a,b,d⟩:=r;dsimp only at hrd;by_cases hak:a=k
   ·subst hak;obtain ⟨b,rfl⟩:∃z:Nat,b=z:=⟨b.toNat,by omega⟩;have hg1:((List.range (L.length+1)).map (psF L)).getD b 0=psF L b:=range_getD _ (by omega);have hg2:((List.range (L.length+1)).map (psF L)).getD k 0=psF L k:=range_getD _ (by omega);have hsw:Within 0 1000000000 ((List.range (L.length+1)).map (psF L)):=fun x hx=>by
     obtain ⟨q,hq,rfl⟩:=List.mem_map.1 hx;have:=hps q;have:=List.mem_range.1 hq;omega
    have hbl:(b:Int)<((L.length+1:Nat):Int):=by omega
    have hkl:k<L.length+1:=by omega
    have hb0:(0:Int)≤(b:Int):=Int.natCast_nonneg _;by_cases hlate:d<psF L b-psF L k
    ·have hlt:guardF (W,L,R)=([],20):=by
      unfold guardF;rw[if_neg (by rw[hr];simp),if_pos (late_any.2 ⟨_,hmem,by unfold lateR;dsimp only;rw[Int.toNat_natCast,Int.toNat_natCast];exact decide_eq_true hlate⟩)]
     dsimp only[z56_2,z56_2d];simp only[↓hcsGr,entRctR,entWorst,entHigh,hi',hS,hA,w3,hlr,hg1,hg2,hsw,hbl,hkl,hb0,hlate,hlt,go_sem];try simp only[hi',hS,hA,w3,hlr,hg1,hg2,hsw,hbl,hkl,hb0,hlate,hlt,td,reduceCtorEq]
    have w5:IntKind.i64.wrap ((k:Int)+1)=((k+1:Nat):Int):=i64_in _ (by omega);dsimp only[z56_2,z56_2d];simp only[↓hcsGr,entRctR,entWorst,entHigh,hi',hS,hA,w3,w5,hlr,hg1,hg2,hsw,hbl,hkl,hb0,hlate,go_sem];try simp only[hi',hS,hA,w3,w5,hlr,hg1,hg2,hsw,hbl,hkl,hb0,hlate,td,reduceCtorEq]
    have hla:lateR (W,L,R) ((k:Int),(b:Int),d)=false:=by
     unfold lateR;dsimp only;rw[Int.toNat_natCast,Int.toNat_natCast];exact decide_eq_false (by omega)
    have hrf:rF (W,L,R) k rest acc ((k:Int),(b:Int),d)=mF (W,L,R) k rest ((k:Int),(b:Int),d) acc (b-k):=by
     unfold rF;rw[if_pos rfl];dsimp only;rw[Int.toNat_natCast]
    have hmb:=mF_bd hr hmem rfl (by omega) hrb hfi.1 hfi.2;dsimp only at hmb;rw[Int.toNat_natCast] at hmb;refine XW_for 4000 z56_3d [0,7,6,3003] Nat (fun q=>[(12,.val Z1 ((k+1+q:Nat):Int))]) (fun q=>[(1006,.row 3 (.int .i64) (bR k (mF (W,L,R) k rest ((k:Int),(b:Int),d) acc q) rest))]) (fun q=>q≤b-k) (fun q=>b-k-q) 0 ?_ ?_ ?_
    ·dsimp only[z56_3d];simp only[go_sem];rfl
    ·exact Nat.zero_le _
    intro q hq;by_cases hq':q<b-k
    ·have w6:IntKind.i64.wrap (((k+1+q:Nat):Int)+1)=((k+1+(q+1):Nat):Int):=(i64_in _ (by omega)).trans (by omega);have hcb:((k+1+q:Nat):Int)≤(b:Int):=by omega
     have hg3:((List.range (L.length+1)).map (psF L)).getD (k+1+q) 0=psF L (k+1+q):=range_getD _ (by omega);have hql:k+1+q<L.length+1:=by omega
     have hmq:=hmb q (by omega);have hrq:=hrb.getD (by omega) (by omega) q;have hpm:=psF_mono hr (a:=k+1+q) (b:=b) (by omega);dsimp only at hpm;have w7:IntKind.i64.wrap (rest.getD q 0+(psF L b-psF L (k+1+q)))=rest.getD q 0+(psF L b-psF L (k+1+q)):=i64_in _ (by omega);have w8:IntKind.i64.wrap (rest.getD q 0+(psF L b-psF L (k+1+q))-d)=rest.getD q 0+(psF L b-psF L (k+1+q))-d:=i64_in _ (by omega);dsimp only[z56_3,z56_3d];simp only[↓hcsGr,entRctR,entWorst,entHigh,hcb,bR_len,bR_at,bR_rest,bR_set,hlr,hg1,hg3,hsw,hbl,hb0,hql,w6,w7,w8,go_sem];try simp only[hcb,bR_len,bR_at,bR_rest,bR_set,hlr,hg1,hg3,hsw,hbl,hb0,hql,w6,w7,w8,td,reduceCtorEq]
     refine ⟨⟨by omega,by omega,by omega,by omega,by omega⟩,q+1,by omega,by omega,rfl,?_⟩;show _=bR k (maxI _ _) rest;unfold maxI;rw[Int.toNat_natCast]
    ·have hcb:¬((k+1+q:Nat):Int)≤(b:Int):=by omega
     dsimp only[z56_3,z56_3d];simp only[↓hcsGr,entRctR,entWorst,entHigh,hcb,w3,go_sem];try simp only[hcb,w3,td,reduceCtorEq]
     obtain rfl:q=b-k:=by omega
     refine ⟨i+1,by omega,⟨hi',fun q hq e=>?_⟩,rfl,?_⟩
     ·by_cases c:q=i
      ·subst c;rw[hS];exact hla
      ·exact hm q (by omega) e
     ·rw[hts,List.foldl_append,hA];show _=bR k (rF (W,L,R) k rest acc ((k:Int),(b:Int),d)) rest;rw[hrf]
   ·dsimp only[z56_2,z56_2d];simp only[↓hcsGr,entRctR,entWorst,entHigh,hi',hS,hA,hak,w3,hlr,go_sem];try simp only[hi',hS,hA,hak,w3,hlr,td,reduceCtorEq]
    refine ⟨i+1,by omega,⟨hi',fun q hq e=>?_⟩,rfl,?_⟩
    ·by_cases c:q=i
     ·subst c;rw[hS] at e;exact absurd e hak
     ·exact hm q (by omega) e
    ·rw[hts,List.foldl_append,hA];show _=bR k (rF (W,L,R) k rest acc (a,b,d)) rest;unfold rF;rw[if_neg hak]
  ·dsimp only[z56_2,z56_2d];simp only[↓hcsGr,entRctR,entWorst,entHigh,hi',go_sem];try simp only[hi',td,reduceCtorEq]
   refine ⟨k,by omega,⟨by omega,fun r hrm hle=>?_⟩,i64_in _ (by omega),?_⟩
   ·by_cases c:r.1=k
    ·obtain ⟨q,hq,rfl⟩:=List.getElem_of_mem hrm;have e:R.getD q (0,0,0)=R[q]:=by simp[List.getD,hq]
     have:=hm q (by omega);rw[e] at this;exact this c
    ·exact hnl r hrm (by omega)
   ·rw[hstep,aR_bR,List.take_of_length_le (by omega)];rfl
 |zero=>
  have e10:¬(((0:Nat):Int)-1)≥0:=by decide
  dsimp only[z56_1,z56_1d];simp only[↓hcsGr,entRctR,entWorst,entHigh,e10,aR_zero,go_sem];try simp only[e10,aR_zero,td,reduceCtorEq]
  have hnl2:∀r∈R,lateR (W,L,R) r=false:=fun r hrm=>hnl r hrm (by
   have:=(rightC_iff.1 hr).2.2.2 r hrm;dsimp only at this;show (0:Int)≤r.1;omega)
  rw[Nat.sub_zero] at hG;have hfit:fitsG (W,L,R) rest=true:=by rw[←hG];exact gs_fits hr hnl2
  have hwf:worstF (W,L,R) rest=(playF rest (highsF L),0):=by unfold worstF;rw[if_pos hfit]
  have hgu:guardF (W,L,R)=if inTime (W,L,R) (playF rest (highsF L))=false then ([],20) else (rest,0):=by
   unfold guardF;rw[if_neg (by rw[hr];simp),if_neg (fun z=>by obtain ⟨r,h1,h2⟩:=late_any.1 z;rw[hnl2 r h1] at h2;cases h2)];dsimp only;rw[hG]
  have hpl:(playF rest (highsF L)).length=W.length:=by rw[playF_len,highs_len];omega
  refine XW_top (XW_frz 8 1006 rfl rfl (XW_of ?_));simp only[↓hcsGr,entRctR,entWorst,entHigh,hwf,go_sem];try simp only[td,reduceCtorEq]
  generalize hP:playF rest (highsF L)=P at hgu hpl;refine XW_for 5000 z56_4d [0] Nat (fun i=>[(119,.val Z1 (i:Int))]) (fun _=>[]) (fun i=>i≤P.length∧∀q,q<i→P.getD q 0≤(W.getD q (0,0)).2) (fun i=>P.length-i) 0 ?_ ?_ ?_
  ·dsimp only[z56_4d];simp only[go_sem];try trivial
  ·exact ⟨Nat.zero_le _,fun q hq=>absurd hq (Nat.not_lt_zero _)⟩
  rintro i ⟨hi,hm⟩;have w3:i<P.length→IntKind.i64.wrap ((i:Int)+1)=((i+1:Nat):Int):=fun _=>i64_in _ (by omega);dsimp only[z56_4,z56_4d];simp only[↓hcsGr,entRctR,entWorst,entHigh,go_sem];try simp only[td,reduceCtorEq]
  refine ⟨fun hi'=>⟨hi',by omega,fun h=>?_,fun h=>⟨i+1,by omega,⟨hi',fun q hq=>?_⟩,w3 hi'⟩⟩,fun hi'=>?_⟩
  ·rw[hgu,if_pos];rw[←Bool.not_eq_true];intro q;have:=inTime_iff.1 q i hi';dsimp only at this;omega
  ·by_cases c:q=i
   ·subst c;exact h
   ·exact hm q (by omega)
  ·rw[hgu,if_neg];rw[inTime_iff.2 fun q hq=>hm q (by omega)];simp
end T
end Go.Proofs.YtpocfbfmjippnaaGreat
end
