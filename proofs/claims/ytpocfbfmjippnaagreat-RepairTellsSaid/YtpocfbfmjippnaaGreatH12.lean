/- Parts of the proof of the law; no condition. -/
import Derived.Test.YtpocfbfmjippnaaGreatH11
set_option linter.all false
section
namespace Go.Proofs.YtpocfbfmjippnaaGreat
open Go.RowKit Go.IntWalk
namespace T
def entRft1:Ent:=⟨187,.cons Z1 .nil,.bool,false,none,fun _=>True,fun x=>!decide (0≤(x.1:Int)∧(x.1:Int)≤2097152)⟩
def csRf1:List Ent:=[] theorem hcsRf1 (f:FuncId):findEnt csRf1 f=findEnt [] f:=rfl
theorem conRft1:Con Tryz.prog entRft1:=by
 refine con_is (C:=csRf1) x187 (by kernel_rfl) (by simp[csRf1]) fun x hx hf=>?_;obtain ⟨(n:Int),_⟩:=x;dsimp only[entRft1,x187];simp only[↓hcsRf1,go_sem];try simp only[td,reduceCtorEq]
 rw[Bool.eq_iff_iff];simp;try omega
def entRfit:Ent:=⟨134,.cons Z18 (.cons Z5 .nil),.bool,false,none,fun _=>True,fun x=>fitsG x.1 x.2.1⟩
def csRfi:List Ent:=[entRctR,entConFuncI,entRft1] theorem hcsRfi (f:FuncId):findEnt csRfi f=findEnt [entRctR,entConFuncI,entRft1] f:=rfl
theorem conRfit:Con Tryz.prog entRfit:=by
 refine con_is (C:=csRfi) x134 (by kernel_rfl) (by simp[csRfi,conRctR,conConFuncI,conRft1]) fun x hx hf=>?_;obtain ⟨⟨(W:List DWin),(L:List DLeg),(R:List DRide)⟩,(g:List Int),_⟩:=x;dsimp only[entRfit,x134];simp only[↓hcsRfi,entRctR,entConFuncI,entRft1,go_sem];try simp only[td,reduceCtorEq]
 unfold fitsG;rw[not_any,Bool.and_assoc];congr 2;exact decide_eq_decide.2 (by dsimp only;omega)
def entPlay:Ent:=⟨135,.cons Z5 (.cons Z5 .nil),Z5,false,none,fun x=>List.length (α:=Int) x.1=List.length (α:=Int) x.2.1+1∧List.length (α:=Int) x.1≤1000∧Within 0 2097152 x.1∧Within 0 1048576 x.2.1,fun x=>playF x.1 x.2.1⟩
def csPly:List Ent:=[] theorem hcsPly (f:FuncId):findEnt csPly f=findEnt [] f:=rfl
theorem conPlay:Con Tryz.prog entPlay:=by
 refine con_is (C:=csPly) x135 (by kernel_rfl) (by simp[csPly]) fun x hx hf=>?_;obtain ⟨(g:List Int),(t:List Int),_⟩:=x;obtain ⟨h1,h2,hg,ht⟩:=hx;have hg:Within 0 2097152 g:=hg;have ht:Within 0 1048576 t:=ht;have h1:g.length=t.length+1:=h1;have h2:g.length≤1000:=h2;have hb:=tmF_bd hg ht;dsimp only[entPlay,x135];simp only[↓hcsPly,go_sem];try simp only[td,reduceCtorEq]
 refine ⟨by omega,?_⟩;refine XW_for 1000 x135_0d [] Nat (fun j=>[(15,.val Z1 (j:Int)),(5,.own 5)]) (fun j=>[(5,.row 3 (.int .i64) ((List.range (j+1)).map (tmF g t)))]) (fun j=>j≤t.length) (fun j=>t.length-j) 0 ?_ ?_ ?_
 ·dsimp only[x135_0d];simp only[go_sem];exact ⟨rfl,rfl⟩
 ·exact Nat.zero_le _
 ·intro j hj;have w2:j<t.length→IntKind.i64.wrap ((j:Int)+1)=((j+1:Nat):Int):=fun h=>i64_in _ (by omega);have hl:((List.range (j+1)).map (tmF g t)).length=j+1:=by rw[List.length_map,List.length_range]
  have hgd:((List.range (j+1)).map (tmF g t)).getD j 0=tmF g t j:=range_getD _ (by omega);have hbj:=hb j;have htj:=ht.getD (Int.le_refl _) (by omega) j;dsimp only[x135_0,x135_0d];simp only[↓hcsPly,hl,hgd,go_sem];try simp only[hl,hgd,td,reduceCtorEq]
  refine ⟨fun hj'=>?_,fun hj'=>?_⟩
  ·have w3:IntKind.i64.wrap (tmF g t j+t.getD j 0)=tmF g t j+t.getD j 0:=i64_in _ (by omega);rw[w2 hj',w3,Int.toNat_natCast];exact ⟨hj',⟨by omega,by omega,⟨by omega,by omega⟩,by omega⟩,j+1,by omega,hj',rfl,range_snoc (tmF g t) (j+1)⟩
  ·unfold playF;rw[show j=t.length by omega]
def entRun:Ent:=⟨96,.cons Z18 (.cons Z5 (.cons Z5 .nil)),.cons Z5 (.cons Z1 .nil),true,none,fun _=>True,fun x=>((rnF x.1 x.2.1 x.2.2.1).1,(rnF x.1 x.2.1 x.2.2.1).2,())⟩
def csRun:List Ent:=[entRfit,entPlay] theorem hcsRun (f:FuncId):findEnt csRun f=findEnt [entRfit,entPlay] f:=rfl
theorem conRun:Con Tryz.prog entRun:=by
 refine con_is (C:=csRun) x96 (by kernel_rfl) (by simp[csRun,conRfit,conPlay]) fun x hx hf=>?_;obtain ⟨⟨(W:List DWin),(L:List DLeg),(R:List DRide)⟩,(g:List Int),(t:List Int),_⟩:=x;dsimp only[entRun,x96];simp only[↓hcsRun,entRfit,entPlay,go_sem];try simp only[td,reduceCtorEq]
 have hno:fitsG (W,L,R) g=false∨¬t.length=L.length→rnF (W,L,R) g t=([],1):=fun h=>by
  unfold rnF;rw[if_neg];rintro ⟨q1,q2⟩;rcases h with h|h
  ·rw[h] at q1;cases q1
  ·exact h (tookB_iff.1 q2).1
 refine ⟨fun h=>by rw[hno h],?_⟩;rintro ⟨hg,ht⟩;obtain ⟨hr,hgl,hgw⟩:=fitsG_iff.1 hg;have hc:=(rightC_iff.1 hr).1;dsimp only at hgl hc;refine XW_for 1000 x96_0d [0] Nat (fun j=>[(25,.val Z1 (j:Int))]) (fun _=>[]) (fun j=>j≤L.length∧∀k,k<j→(L.getD k (0,0)).1≤t.getD k 0∧t.getD k 0≤(L.getD k (0,0)).2) (fun j=>L.length-j) 0 ?_ ?_ ?_
 ·dsimp only[x96_0d];simp only[go_sem];try trivial
 ·exact ⟨Nat.zero_le _,fun k hk=>absurd hk (Nat.not_lt_zero _)⟩
 ·rintro j ⟨hj,hn⟩;have w2:j<L.length→IntKind.i64.wrap ((j:Int)+1)=((j+1:Nat):Int):=fun h=>i64_in _ (by omega);dsimp only[x96_0,x96_0d];simp only[↓hcsRun,entRfit,entPlay,go_sem];try simp only[td,reduceCtorEq]
  refine ⟨fun hj'=>⟨hj',⟨by omega,fun q=>⟨q,by omega⟩⟩,fun q=>?_,fun q=>⟨j+1,by omega,⟨hj',fun k hk=>?_⟩,w2 hj'⟩⟩,fun hj'=>?_⟩
  ·unfold rnF;rw[if_neg];rintro ⟨_,q2⟩;have:=(tookB_iff.1 q2).2 j hj';dsimp only at this;omega
  ·by_cases c:k=j
   ·subst c;exact q
   ·exact hn k (by omega)
  ·have htb:tookB L t=true:=tookB_iff.2 ⟨ht,fun k hk=>hn k (by omega)⟩;refine ⟨⟨by omega,by omega,hgw,took_within hr htb⟩,?_⟩;unfold rnF;rw[if_pos ⟨hg,htb⟩]
def entWorst:Ent:=⟨79,.cons Z18 (.cons Z5 .nil),.cons Z5 (.cons Z1 .nil),true,none,fun _=>True,fun x=>((worstF x.1 x.2.1).1,(worstF x.1 x.2.1).2,())⟩
def csWst:List Ent:=[entRfit,entPlay] theorem hcsWst (f:FuncId):findEnt csWst f=findEnt [entRfit,entPlay] f:=rfl
theorem conWorst:Con Tryz.prog entWorst:=by
 refine con_is (C:=csWst) x79 (by kernel_rfl) (by simp[csWst,conRfit,conPlay]) fun x hx hf=>?_;obtain ⟨⟨(W:List DWin),(L:List DLeg),(R:List DRide)⟩,(g:List Int),_⟩:=x;dsimp only[entWorst,x79];simp only[↓hcsWst,entRfit,entPlay,go_sem];try simp only[td,reduceCtorEq]
 refine ⟨fun h=>by unfold worstF;rw[if_neg (by rw[h];simp)],fun hg=>?_⟩;obtain ⟨hr,hgl,hgw⟩:=fitsG_iff.1 hg;have hc:=(rightC_iff.1 hr).1;dsimp only at hgl hc;refine XW_for 1000 x79_0d [0,1] Nat (fun j=>[(16,.val Z1 (j:Int)),(6,.own 7)]) (fun j=>[(7,.row 3 (.int .i64) ((highsF L).take j))]) (fun j=>j≤L.length) (fun j=>L.length-j) 0 ?_ ?_ ?_
 ·dsimp only[x79_0d];simp only[go_sem];try trivial
 ·exact Nat.zero_le _
 ·intro j hj;have w2:j<L.length→IntKind.i64.wrap ((j:Int)+1)=((j+1:Nat):Int):=fun h=>i64_in _ (by omega);have hs:j<L.length→(highsF L).take j++[(L.getD j (0,0)).2]=(highsF L).take (j+1):=fun h=>by
   rw[List.take_succ_eq_append_getElem (by rw[highs_len];exact h),←highs_getD];simp[List.getD,highs_len,h]
  have hlt:((highsF L).take j).length=j:=by rw[List.length_take,highs_len];omega
  dsimp only[x79_0,x79_0d];simp only[↓hcsWst,entRfit,entPlay,hlt,go_sem];try simp only[hlt,td,reduceCtorEq]
  refine ⟨fun hj'=>⟨hj',by omega,j+1,by omega,hj',w2 hj',hs hj'⟩,fun hj'=>?_⟩;have e:(highsF L).take j=highsF L:=List.take_of_length_le (by rw[highs_len];omega);rw[e];refine ⟨⟨by omega,by omega,hgw,highs_within hr⟩,?_⟩;unfold worstF;rw[if_pos hg]
def entKeep:Ent:=⟨98,.cons Z18 (.cons Z5 .nil),.bool,false,none,fun _=>True,fun x=>keepsF x.1 x.2.1⟩
def csKep:List Ent:=[entRctR] theorem hcsKep (f:FuncId):findEnt csKep f=findEnt [entRctR] f:=rfl
theorem conKeep:Con Tryz.prog entKeep:=by
 refine con_is (C:=csKep) z98 (by kernel_rfl) (by simp[csKep,conRctR]) fun x hx hf=>?_;obtain ⟨⟨(W:List DWin),(L:List DLeg),(R:List DRide)⟩,(t:List Int),_⟩:=x;dsimp only[entKeep,z98,z92,z149,x151,Z17,Z18,Z5,Z9,Za,Zb,Zc,Ze,Zf,Zh];simp only[↓hcsKep,entRctR,go_sem];try simp only[td,reduceCtorEq]
 have hW:W.length≤9223372036854775807:=hf.1.1.1;have hno:rightC (W,L,R)=false∨¬t.length=W.length→false=keepsF (W,L,R) t:=fun h=>by
  symm;rw[←Bool.not_eq_true];intro q;obtain ⟨q1,q2,_⟩:=keepsF_iff.1 q;rcases h with h|h
  ·rw[h] at q1;cases q1
  ·exact h q2
 refine ⟨hno,?_⟩;rintro ⟨hr,hl⟩;have hc:=(rightC_iff.1 hr).1;dsimp only at hc;refine XW_for 1000 z98_0d [0,1] Nat (fun j=>[(21,.val Z1 (j:Int))]) (fun _=>[]) (fun j=>j≤W.length∧∀k,k<j→(W.getD k (0,0)).1≤t.getD k 0∧t.getD k 0≤(W.getD k (0,0)).2) (fun j=>W.length-j) 0 ?_ ?_ ?_
 ·dsimp only[z98_0d];simp only[go_sem];try trivial
 ·exact ⟨Nat.zero_le _,fun k hk=>absurd hk (Nat.not_lt_zero _)⟩
 ·rintro j ⟨hj,hn⟩;have w2:j<W.length→IntKind.i64.wrap ((j:Int)+1)=((j+1:Nat):Int):=fun h=>i64_in _ (by omega);dsimp only[z98_0,z98_0d,z98,z92,z149,x151,Z17,Z18,Z5,Z9,Za,Zb,Zc,Ze,Zf,Zh];simp only[↓hcsKep,entRctR,go_sem];try simp only[td,reduceCtorEq]
  refine ⟨fun hj'=>⟨hj',⟨by omega,fun q=>⟨q,by omega⟩⟩,fun q=>?_,fun q=>⟨j+1,by omega,⟨hj',fun k hk=>?_⟩,w2 hj'⟩⟩,fun hj'=>?_⟩
  ·symm;rw[←Bool.not_eq_true];intro q2;have:=(keepsF_iff.1 q2).2.2.1 j hj';dsimp only at this;omega
  ·by_cases c:k=j
   ·subst c;exact q
   ·exact hn k (by omega)
  ·have hn2:∀k,k<W.length→(W.getD k (0,0)).1≤t.getD k 0∧t.getD k 0≤(W.getD k (0,0)).2:=fun k hk=>hn k (by omega);have ht0:∀k,0≤t.getD k 0∧t.getD k 0≤1048576:=fun k=>by
    by_cases c:k<W.length
    ·have h1:=hn2 k c;have h2:=right_win hr (k:=k) c;dsimp only at h2;omega
    ·rw[List.getD_eq_getElem?_getD,List.getElem?_eq_none (by omega)];exact ⟨Int.le_refl _,by show (0:Int)≤1048576;omega⟩
   refine XW_for 2000 z149_0d [0,1] Nat (fun i=>[(8,.val Z1 (i:Int))]) (fun _=>[]) (fun i=>i≤R.length∧∀k,k<i→t.getD (R.getD k (0,0,0)).2.1.toNat 0-t.getD (R.getD k (0,0,0)).1.toNat 0≤(R.getD k (0,0,0)).2.2) (fun i=>R.length-i) 0 ?_ ?_ ?_
   ·dsimp only[z149_0d];simp only[go_sem];try trivial
   ·exact ⟨Nat.zero_le _,fun k hk=>absurd hk (Nat.not_lt_zero _)⟩
   ·rintro i ⟨hi,hm⟩;have w3:i<R.length→IntKind.i64.wrap ((i:Int)+1)=((i+1:Nat):Int):=fun h=>i64_in _ (by omega);dsimp only[z149_0,z149_0d,z98,z92,z149,x151,Z17,Z18,Z3,Z5,Z9,Za,Zb,Zc,Ze,Zf,Zh];simp only[↓hcsKep,entRctR,go_sem];try simp only[td,reduceCtorEq]
    refine ⟨fun hi'=>?_,fun hi'=>?_⟩
    ·have hrd:=right_ride hr (k:=i) hi';dsimp only at hrd;have e1:=ht0 (R.getD i (0,0,0)).2.1.toNat;have e2:=ht0 (R.getD i (0,0,0)).1.toNat;have hw:IntKind.i64.wrap (t.getD (R.getD i (0,0,0)).2.1.toNat 0-t.getD (R.getD i (0,0,0)).1.toNat 0)=t.getD (R.getD i (0,0,0)).2.1.toNat 0-t.getD (R.getD i (0,0,0)).1.toNat 0:=i64_in _ (by omega);rw[hw];refine ⟨hi',⟨⟨by omega,by omega⟩,by omega,by omega⟩,fun q=>?_,fun q=>⟨i+1,by omega,⟨hi',fun k hk=>?_⟩,w3 hi'⟩⟩
     ·symm;rw[Bool.not_true,←Bool.not_eq_true];intro q2;have:=(keepsF_iff.1 q2).2.2.2 _ (getD_mem2 (d:=(0,0,0)) hi');dsimp only at this;omega
     ·by_cases c:k=i
      ·subst c;exact q
      ·exact hm k (by omega)
    ·symm;refine (keepsF_iff.2 ⟨hr,hl,hn2,fun r hrm=>?_⟩).trans (by decide);obtain ⟨k,hk,rfl⟩:=List.getElem_of_mem hrm;have h1:=hm k (by dsimp only at hk;omega);have:R.getD k (0,0,0)=R[k]:=by simp[List.getD,hk]
     rw[this] at h1;exact h1
end T
end Go.Proofs.YtpocfbfmjippnaaGreat
end
