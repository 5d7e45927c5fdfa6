/- Parts of the proof of the law; no condition. -/
import Derived.Test.YtpocfbfmjippnaaGreatH10
import Derived.Test.YtpocfbfmjippnaaGreatH12
import Derived.Test.YtpocfbfmjippnaaGreatH14
set_option linter.all false
section
namespace Go.Proofs.YtpocfbfmjippnaaGreat
open Go.RowKit Go.IntWalk
namespace T
theorem range_map_s2 {α:Type} (f:Nat→α) (j:Nat):(List.range j).map f++[f j]=(List.range (j+1)).map f:=by
 rw[List.range_succ,List.map_append];rfl
def entLw20:Ent:=⟨93,.cons Z9 .nil,Z5,false,none,fun x=>List.length (α:=DLeg) x.1≤1000,fun x=>lowsF x.1⟩
def csLw20:List Ent:=[] theorem hcsLw20 (f:FuncId):findEnt csLw20 f=findEnt [] f:=rfl
theorem conLw20:Con Tryz.prog entLw20:=by
 refine con_is (C:=csLw20) x93 (by kernel_rfl) (by simp[csLw20]) fun x hx hf=>?_;obtain ⟨(L:List DLeg),_⟩:=x;have hL:L.length≤1000:=hx;dsimp only[entLw20,x93];simp only[↓hcsLw20,go_sem];try simp only[td,reduceCtorEq]
 refine XW_for 1000 x93_0d [] Nat (fun j=>[(7,.val Z1 (j:Int)),(2,.own 0)]) (fun j=>[(0,.row 3 (.int .i64) ((lowsF L).take j))]) (fun j=>j≤L.length) (fun j=>L.length-j) 0 ?_ ?_ ?_
 ·dsimp only[x93_0d];simp only[go_sem];try trivial
 ·exact Nat.zero_le _
 intro j hj;have w2:j<L.length→IntKind.i64.wrap ((j:Int)+1)=((j+1:Nat):Int):=fun h=>i64_in _ (by omega);have hs:j<L.length→(lowsF L).take j++[(L.getD j (0,0)).1]=(lowsF L).take (j+1):=fun h=>by
  rw[List.take_succ_eq_append_getElem (by rw[lows_len];exact h),←lows_getD];simp[List.getD,lows_len,h]
 have hlt:((lowsF L).take j).length=j:=by rw[List.length_take,lows_len];omega
 dsimp only[x93_0,x93_0d];simp only[↓hcsLw20,hlt,go_sem];try simp only[hlt,td,reduceCtorEq]
 refine ⟨fun hj'=>⟨hj',by omega,j+1,by omega,hj',w2 hj',hs hj'⟩,fun hj'=>?_⟩;exact List.take_of_length_le (by rw[lows_len];omega)
def entHg20:Ent:=⟨94,.cons Z9 .nil,Z5,false,none,fun x=>List.length (α:=DLeg) x.1≤1000,fun x=>highsF x.1⟩
def csHg20:List Ent:=[] theorem hcsHg20 (f:FuncId):findEnt csHg20 f=findEnt [] f:=rfl
theorem conHg20:Con Tryz.prog entHg20:=by
 refine con_is (C:=csHg20) x94 (by kernel_rfl) (by simp[csHg20]) fun x hx hf=>?_;obtain ⟨(L:List DLeg),_⟩:=x;have hL:L.length≤1000:=hx;dsimp only[entHg20,x94];simp only[↓hcsHg20,go_sem];try simp only[td,reduceCtorEq]
 refine XW_for 1000 x94_0d [] Nat (fun j=>[(7,.val Z1 (j:Int)),(2,.own 0)]) (fun j=>[(0,.row 3 (.int .i64) ((highsF L).take j))]) (fun j=>j≤L.length) (fun j=>L.length-j) 0 ?_ ?_ ?_
 ·dsimp only[x94_0d];simp only[go_sem];try trivial
 ·exact Nat.zero_le _
 intro j hj;have w2:j<L.length→IntKind.i64.wrap ((j:Int)+1)=((j+1:Nat):Int):=fun h=>i64_in _ (by omega);have hs:j<L.length→(highsF L).take j++[(L.getD j (0,0)).2]=(highsF L).take (j+1):=fun h=>by
  rw[List.take_succ_eq_append_getElem (by rw[highs_len];exact h),←highs_getD];simp[List.getD,highs_len,h]
 have hlt:((highsF L).take j).length=j:=by rw[List.length_take,highs_len];omega
 dsimp only[x94_0,x94_0d];simp only[↓hcsHg20,hlt,go_sem];try simp only[hlt,td,reduceCtorEq]
 refine ⟨fun hj'=>⟨hj',by omega,j+1,by omega,hj',w2 hj',hs hj'⟩,fun hj'=>?_⟩;exact List.take_of_length_le (by rw[highs_len];omega)
def entRst:Ent:=⟨55,.cons Z21 (.cons Z18 (.cons Z5 .nil)),.bool,false,none,fun x=>fitsG x.2.1 x.2.2.1=true,fun x=>restsF x.1 x.2.1 x.2.2.1⟩
def csRst:List Ent:=[entLw20,entHg20,entRun,entWCk] theorem hcsRst (f:FuncId):findEnt csRst f=findEnt [entLw20,entHg20,entRun,entWCk] f:=rfl
theorem conRst:Con Tryz.prog entRst:=by
 refine con_is (C:=csRst) x55 (by kernel_rfl) (by simp[csRst,conLw20,conHg20,conRun,conWCk]) fun x hx hf=>?_;obtain ⟨⟨(N:Int),(A:List DArc),(C:List DCar),(Q:List DReq),(P:List DPair),(S1:Int),(S2:Int),(S3:Int)⟩,⟨(W:List DWin),(L:List DLeg),(R:List DRide)⟩,(g:List Int),_⟩:=x;replace hx:fitsG (W,L,R) g=true:=hx;obtain ⟨hr,hgl,hgw⟩:=fitsG_iff.1 hx;have hlen:=(rightC_iff.1 hr).1;dsimp only at hgl hlen;have h1:rnF (W,L,R) g (lowsF L)=(playF g (lowsF L),0):=rn_lows hx;have h2:rnF (W,L,R) g (highsF L)=(playF g (highsF L),0):=rn_highs hx;have hLl:L.length≤1000:=by omega
 have hLi:(L.length:Int)≤1000:=by omega
 dsimp only[entRst,x55];simp only[↓hcsRst,entLw20,entHg20,entRun,entWCk,h1,h2,hLl,hLi,go_sem];try simp only[h1,h2,hLl,hLi,td,reduceCtorEq]
 refine ⟨by omega,?_⟩;have hbd:∀{t:List Int},Within 0 1048576 t→t.length=L.length→∀k,0≤(playF g t).getD k 0∧(playF g t).getD k 0≤100000000:=fun {t} ht hl k=>by
  rcases Nat.lt_or_ge t.length k with q|q
  ·rw[List.getD_eq_getElem?_getD,List.getElem?_eq_none (by rw[playF_len];omega)];exact ⟨Int.le_refl _,by decide⟩
  ·rw[playF_getD g t q];have:=tmF_bd hgw ht k;omega
 have hH:=hbd (highs_within hr) (highs_len L);have hE:=hbd (took_within hr (legs_took hr).1) (lows_len L);dsimp only at hH hE;have hHl:(playF g (highsF L)).length=L.length+1:=by rw[playF_len,highs_len]
 have hEl:(playF g (lowsF L)).length=L.length+1:=by rw[playF_len,lows_len]
 have hres:restsF (N,A,C,Q,P,S1,S2,S3) (W,L,R) g=decide ((checkK (S1,S2,S3) L (waitsF (W,L,R) g)).2=0):=rfl;refine XW_for 1000 x55_0d [0,1] Nat (fun j=>[(12,.val Z1 (j:Int))]) (fun j=>[(28,.row 89 Z8 (waitsTo (W,L,R) g j))]) (fun j=>1≤j∧j≤L.length+1) (fun j=>L.length+1-j) 1 ?_ ?_ ?_
 ·dsimp only[x55_0d];simp only[go_sem];exact ⟨rfl,(waitsTo_1 (W,L,R) g).symm⟩
 ·exact ⟨Nat.le_refl _,by omega⟩
 rintro j ⟨hj1,hj2⟩;have hwl:(waitsTo (W,L,R) g j).length=L.length:=waitsTo_len _ _ _;by_cases hjl:j<L.length
 ·have w2:IntKind.i64.wrap ((j:Int)+1)=((j+1:Nat):Int):=i64_in _ (by omega);have w3:IntKind.i64.wrap ((j:Int)-1)=((j-1:Nat):Int):=(i64_in _ (by omega)).trans (by omega);have hlg:=right_leg hr (k:=j-1) (show j-1<L.length by omega);replace hlg:0≤(L.getD (j-1) (0,0)).1∧(L.getD (j-1) (0,0)).1≤(L.getD (j-1) (0,0)).2∧(L.getD (j-1) (0,0)).2≤1048576:=hlg;have b1:=hH j;have b2:=hH (j-1);have b3:=hE j;have b4:=hE (j-1);have hat:waitAt (W,L,R) g j=((playF g (highsF L)).getD j 0-(playF g (highsF L)).getD (j-1) 0-(L.getD (j-1) (0,0)).2,(playF g (lowsF L)).getD j 0-(playF g (lowsF L)).getD (j-1) 0-(L.getD (j-1) (0,0)).1):=by
   unfold waitAt;rw[if_neg (by omega)]
  have hset:=waitsTo_set (W,L,R) g j;rw[hat] at hset;have v1:IntKind.i64.wrap ((playF g (highsF L)).getD j 0-(playF g (highsF L)).getD (j-1) 0)=(playF g (highsF L)).getD j 0-(playF g (highsF L)).getD (j-1) 0:=i64_in _ (by omega);have v2:IntKind.i64.wrap ((playF g (highsF L)).getD j 0-(playF g (highsF L)).getD (j-1) 0-(L.getD (j-1) (0,0)).2)=(playF g (highsF L)).getD j 0-(playF g (highsF L)).getD (j-1) 0-(L.getD (j-1) (0,0)).2:=i64_in _ (by omega);have v3:IntKind.i64.wrap ((playF g (lowsF L)).getD j 0-(playF g (lowsF L)).getD (j-1) 0)=(playF g (lowsF L)).getD j 0-(playF g (lowsF L)).getD (j-1) 0:=i64_in _ (by omega);have v4:IntKind.i64.wrap ((playF g (lowsF L)).getD j 0-(playF g (lowsF L)).getD (j-1) 0-(L.getD (j-1) (0,0)).1)=(playF g (lowsF L)).getD j 0-(playF g (lowsF L)).getD (j-1) 0-(L.getD (j-1) (0,0)).1:=i64_in _ (by omega);dsimp only[x55_0,x55_0d];simp only[↓hcsRst,entLw20,entHg20,entRun,entWCk,hwl,hHl,hEl,hjl,w2,w3,v1,v2,v3,v4,go_sem];simp only[hwl,hHl,hEl,hjl,w2,w3,v1,v2,v3,v4,hset,td,reduceCtorEq];exact ⟨by omega,j+1,by omega,⟨by omega,by omega⟩,rfl,rfl⟩
 ·have hall:=waitsTo_all (W,L,R) g (j:=j) (Nat.le_of_not_lt hjl);have hck:∀l,(checkK (S1,S2,S3) L l).2=(checkK (S1,S2,S3) L l).2:=fun _=>rfl;dsimp only[x55_0,x55_0d];simp only[↓hcsRst,entLw20,entHg20,entRun,entWCk,hwl,hjl,hall,hres,go_sem];try simp only[hwl,hjl,hall,hres,td,reduceCtorEq]
  have hwf:(waitsF (W,L,R) g).length=L.length:=by unfold waitsF;rw[List.length_map,List.length_range]
  exact ⟨fun h=>absurd (by rw[←hwf];exact h) hjl,fun _=>by rw[Bool.eq_iff_iff,beq_iff_eq,decide_eq_true_eq]⟩
def entWt20:Ent:=⟨126,.cons Z18 (.cons Z5 .nil),Z9,false,none,fun x=>fitsG x.1 x.2.1=true,fun x=>waitsF x.1 x.2.1⟩
def csWt2:List Ent:=[entLs19,entHs19,entRun16] theorem hcsWt2 (f:FuncId):findEnt csWt2 f=findEnt [entLs19,entHs19,entRun16] f:=rfl
theorem conWt20:Con Tryz.prog entWt20:=by
 refine con_is (C:=csWt2) x126 (by kernel_rfl) (by simp[csWt2,conLs19,conHs19,conRun16]) fun x hx hf=>?_;obtain ⟨⟨(W:List DWin),(L:List DLeg),(R:List DRide)⟩,(g:List Int),_⟩:=x;replace hx:fitsG (W,L,R) g=true:=hx;obtain ⟨hr,hgl,hgw⟩:=fitsG_iff.1 hx;have hlen:=(rightC_iff.1 hr).1;dsimp only at hgl hlen;have h1:rnF (W,L,R) g (lowsF L)=(playF g (lowsF L),0):=rn_lows hx;have h2:rnF (W,L,R) g (highsF L)=(playF g (highsF L),0):=rn_highs hx;have hLl:L.length≤1000:=by omega
 dsimp only[entWt20,x126];simp only[↓hcsWt2,entLs19,entHs19,entRun16,h1,h2,hLl,go_sem];try simp only[h1,h2,hLl,td,reduceCtorEq]
 have hbd:∀{t:List Int},Within 0 1048576 t→t.length=L.length→∀k,0≤(playF g t).getD k 0∧(playF g t).getD k 0≤100000000:=fun {t} ht hl k=>by
  rcases Nat.lt_or_ge t.length k with q|q
  ·rw[List.getD_eq_getElem?_getD,List.getElem?_eq_none (by rw[playF_len];omega)];exact ⟨Int.le_refl _,by decide⟩
  ·rw[playF_getD g t q];have:=tmF_bd hgw ht k;omega
 have hH:=hbd (highs_within hr) (highs_len L);have hE:=hbd (took_within hr (legs_took hr).1) (lows_len L);dsimp only at hH hE;have hHl:(playF g (highsF L)).length=L.length+1:=by rw[playF_len,highs_len]
 have hEl:(playF g (lowsF L)).length=L.length+1:=by rw[playF_len,lows_len]
 refine XW_for 1000 x126_0d [0] Nat (fun j=>[(10,.val Z1 (j:Int)),(9,.own 24)]) (fun j=>[(24,.row 89 Z8 ((List.range j).map (waitAt (W,L,R) g)))]) (fun j=>j≤L.length) (fun j=>L.length-j) 0 ?_ ?_ ?_
 ·dsimp only[x126_0d];simp only[go_sem];try trivial
 ·exact Nat.zero_le _
 intro j hj;have hwl:((List.range j).map (waitAt (W,L,R) g)).length=j:=by rw[List.length_map,List.length_range]
 have hms:=range_map_s2 (waitAt (W,L,R) g) j;by_cases hjl:j<L.length
 ·have w2:IntKind.i64.wrap ((j:Int)+1)=((j+1:Nat):Int):=i64_in _ (by omega);by_cases hj0:j=0
  ·subst hj0;have hat:waitAt (W,L,R) g 0=(0,0):=rfl;rw[hat] at hms;dsimp only[x126_0,x126_0d];simp only[↓hcsWt2,entLs19,entHs19,entRun16,hwl,hHl,hEl,hjl,w2,Int.natCast_zero,go_sem];simp only[hwl,hHl,hEl,hjl,w2,hms,Int.natCast_zero,td,reduceCtorEq];exact ⟨fun _=>⟨1,by omega,by omega,by decide,rfl⟩,fun h=>by omega⟩
  have hj0':¬(j:Int)=0:=by omega
  have w3:IntKind.i64.wrap ((j:Int)-1)=((j-1:Nat):Int):=(i64_in _ (by omega)).trans (by omega);have hlg:=right_leg hr (k:=j-1) (show j-1<L.length by omega);replace hlg:0≤(L.getD (j-1) (0,0)).1∧(L.getD (j-1) (0,0)).1≤(L.getD (j-1) (0,0)).2∧(L.getD (j-1) (0,0)).2≤1048576:=hlg;have b1:=hH j;have b2:=hH (j-1);have b3:=hE j;have b4:=hE (j-1);have hat:waitAt (W,L,R) g j=((playF g (highsF L)).getD j 0-(playF g (highsF L)).getD (j-1) 0-(L.getD (j-1) (0,0)).2,(playF g (lowsF L)).getD j 0-(playF g (lowsF L)).getD (j-1) 0-(L.getD (j-1) (0,0)).1):=by
   unfold waitAt;rw[if_neg hj0]
  rw[hat] at hms;have v1:IntKind.i64.wrap ((playF g (highsF L)).getD j 0-(playF g (highsF L)).getD (j-1) 0)=(playF g (highsF L)).getD j 0-(playF g (highsF L)).getD (j-1) 0:=i64_in _ (by omega);have v2:IntKind.i64.wrap ((playF g (highsF L)).getD j 0-(playF g (highsF L)).getD (j-1) 0-(L.getD (j-1) (0,0)).2)=(playF g (highsF L)).getD j 0-(playF g (highsF L)).getD (j-1) 0-(L.getD (j-1) (0,0)).2:=i64_in _ (by omega);have v3:IntKind.i64.wrap ((playF g (lowsF L)).getD j 0-(playF g (lowsF L)).getD (j-1) 0)=(playF g (lowsF L)).getD j 0-(playF g (lowsF L)).getD (j-1) 0:=i64_in _ (by omega);have v4:IntKind.i64.wrap ((playF g (lowsF L)).getD j 0-(playF g (lowsF L)).getD (j-1) 0-(L.getD (j-1) (0,0)).1)=(playF g (lowsF L)).getD j 0-(playF g (lowsF L)).getD (j-1) 0-(L.getD (j-1) (0,0)).1:=i64_in _ (by omega);dsimp only[x126_0,x126_0d];simp only[↓hcsWt2,entLs19,entHs19,entRun16,hwl,hHl,hEl,hjl,hj0',w2,w3,v1,v2,v3,v4,go_sem];simp only[hwl,hHl,hEl,hjl,hj0',w2,w3,v1,v2,v3,v4,hms,td,reduceCtorEq];exact ⟨by omega,j+1,by omega,by omega,rfl,rfl⟩
 ·obtain rfl:j=L.length:=by omega
  dsimp only[x126_0,x126_0d];simp only[↓hcsWt2,entLs19,entHs19,entRun16,hjl,go_sem];try simp only[hjl,td,reduceCtorEq]
  rfl
end T
end Go.Proofs.YtpocfbfmjippnaaGreat
end
