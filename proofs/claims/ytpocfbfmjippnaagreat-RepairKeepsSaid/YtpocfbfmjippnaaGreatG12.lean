/- Parts of the proof of the law; no condition. -/
import Derived.Test.YtpocfbfmjippnaaGreatG11
import Derived.Test.YtpocfbfmjippnaaGreatG14
import Derived.Test.YtpocfbfmjippnaaGreatG15
set_option linter.all false
section
namespace Go.Proofs.YtpocfbfmjippnaaGreat
namespace T
def waitAt (c:DChain) (g:List Int) (k:Nat):DLeg:=
 if k=0 then (0,0) else ((playF g (highsF c.2.1)).getD k 0-(playF g (highsF c.2.1)).getD (k-1) 0-(c.2.1.getD (k-1) (0,0)).2,(playF g (lowsF c.2.1)).getD k 0-(playF g (lowsF c.2.1)).getD (k-1) 0-(c.2.1.getD (k-1) (0,0)).1)
def waitsF (c:DChain) (g:List Int):List DLeg:=(List.range c.2.1.length).map (waitAt c g)
def waitsTo (c:DChain) (g:List Int) (j:Nat):List DLeg:=(List.range c.2.1.length).map fun k=>if k<j then waitAt c g k else (0,0)
def restsF (w:DWorld) (c:DChain) (g:List Int):Bool:=decide ((checkK w.2.2.2.2.2 c.2.1 (waitsF c g)).2=0)
theorem waitsTo_len (c:DChain) (g:List Int) (j:Nat):(waitsTo c g j).length=c.2.1.length:=by unfold waitsTo;rw[List.length_map,List.length_range]
theorem waitsTo_at (c:DChain) (g:List Int) (j k:Nat) (h:k<(waitsTo c g j).length):(waitsTo c g j)[k]=if k<j then waitAt c g k else (0,0):=by simp[waitsTo]
theorem waitsTo_1 (c:DChain) (g:List Int):waitsTo c g 1=List.replicate c.2.1.length (0,0):=by
 refine List.ext_getElem (by rw[waitsTo_len,List.length_replicate]) fun k h1 h2=>?_;rw[waitsTo_at,List.getElem_replicate];split
 ·rw[show k=0 by omega];rfl
 ·rfl
theorem waitsTo_set (c:DChain) (g:List Int) (j:Nat):(waitsTo c g j).set j (waitAt c g j)=waitsTo c g (j+1):=by
 refine List.ext_getElem (by rw[List.length_set,waitsTo_len,waitsTo_len]) fun k h1 h2=>?_;rw[List.getElem_set,waitsTo_at,waitsTo_at];by_cases q:j=k
 ·subst q;rw[if_pos rfl,if_pos (by omega)]
 ·rw[if_neg q];by_cases q2:k<j
  ·rw[if_pos q2,if_pos (by omega)]
  ·rw[if_neg q2,if_neg (by omega)]
theorem waitsTo_all (c:DChain) (g:List Int) {j:Nat} (h:c.2.1.length≤j):waitsTo c g j=waitsF c g:=by
 unfold waitsTo waitsF;refine List.map_congr_left fun k hk=>?_;have:=List.mem_range.1 hk;rw[if_pos (by omega)]
theorem legs_took {c:DChain} (h:rightC c=true):tookB c.2.1 (lowsF c.2.1)=true∧tookB c.2.1 (highsF c.2.1)=true:=by
 refine ⟨tookB_iff.2 ⟨lows_len _,fun k hk=>?_⟩,tookB_iff.2 ⟨highs_len _,fun k hk=>?_⟩⟩
 ·rw[lows_getD];have:=right_leg h hk;omega
 ·rw[highs_getD];have:=right_leg h hk;omega
theorem rn_lows {c:DChain} {g:List Int} (h:fitsG c g=true):rnF c g (lowsF c.2.1)=(playF g (lowsF c.2.1),0):=by
 unfold rnF;rw[if_pos ⟨h,(legs_took (fitsG_iff.1 h).1).1⟩]
theorem rn_highs {c:DChain} {g:List Int} (h:fitsG c g=true):rnF c g (highsF c.2.1)=(playF g (highsF c.2.1),0):=by
 unfold rnF;rw[if_pos ⟨h,(legs_took (fitsG_iff.1 h).1).2⟩]
end T
end Go.Proofs.YtpocfbfmjippnaaGreat
end
section
namespace Go.Proofs.YtpocfbfmjippnaaGreat
open Go.RowKit Go.IntWalk
namespace T
def entLw20:Ent:=⟨93,.cons Z9 .nil,Z5,false,none,fun x=>List.length (α:=DLeg) x.1≤1000,fun x=>lowsF x.1⟩
def csLw20:List Ent:=[] theorem hcsLw20 (f:FuncId):findEnt csLw20 f=findEnt [] f:=rfl
theorem conLw20:Con Tryz.prog entLw20:=by
 refine con_is (C:=csLw20) x93 (by kernel_rfl) (by simp[csLw20]) fun x hx hf=>?_;obtain ⟨(L:List DLeg),_⟩:=x;have hL:L.length≤1000:=hx;dsimp only[entLw20,x93];simp only[↓hcsLw20,go_sem];try simp only[td,reduceCtorEq]
 refine XW_for 1000 x93_0d [] Nat (fun j=>[(7,.val Z1 (j:Int)),(2,.own 0)]) (fun j=>[(0,.row 3 (.int .i64) ((lowsF L).take j))]) (fun j=>j≤L.length) (fun j=>L.length-j) 0 ?_ ?_ ?_
 ·dsimp only[x93_0d];simp only[go_sem];try trivial
 ·exact Nat.zero_le _
 intro j hj;have w2:j<L.length→IntKind.i64.wrap ((j:Int)+1)=((j+1:Nat):Int):=fun h=>i64_in _ (by omega);have hs:j<L.length→(lowsF L).take j++[(L.getD j (0,0)).1]=(lowsF L).take (j+1):=fun h=>by
  rw[List.take_succ_eq_append_getElem (by rw[lows_len];exact h),←lows_getD];simp[List.getD,lows_len,h]
 have hlt:((lowsF L).take j).length=j:=by rw[List.length_take,lows_len];omega
 dsimp only[x93_0,x93_0d];simp only[↓hcsLw20,hlt,go_sem];try simp only[hlt,td,reduceCtorEq]
 refine ⟨fun hj'=>⟨hj',by omega,j+1,by omega,hj',w2 hj',hs hj'⟩,fun hj'=>?_⟩;exact List.take_of_length_le (by rw[lows_len];omega)
def entHg20:Ent:=⟨94,.cons Z9 .nil,Z5,false,none,fun x=>List.length (α:=DLeg) x.1≤1000,fun x=>highsF x.1⟩
def csHg20:List Ent:=[] theorem hcsHg20 (f:FuncId):findEnt csHg20 f=findEnt [] f:=rfl
theorem conHg20:Con Tryz.prog entHg20:=by
 refine con_is (C:=csHg20) x94 (by kernel_rfl) (by simp[csHg20]) fun x hx hf=>?_;obtain ⟨(L:List DLeg),_⟩:=x;have hL:L.length≤1000:=hx;dsimp only[entHg20,x94];simp only[↓hcsHg20,go_sem];try simp only[td,reduceCtorEq]
 refine XW_for 1000 x94_0d [] Nat (fun j=>[(7,.val Z1 (j:Int)),(2,.own 0)]) (fun j=>[(0,.row 3 (.int .i64) ((highsF L).take j))]) (fun j=>j≤L.length) (fun j=>L.length-j) 0 ?_ ?_ ?_
 ·dsimp only[x94_0d];simp only[go_sem];try trivial
 ·exact Nat.zero_le _
 intro j hj;have w2:j<L.length→IntKind.i64.wrap ((j:Int)+1)=((j+1:Nat):Int):=fun h=>i64_in _ (by omega);have hs:j<L.length→(highsF L).take j++[(L.getD j (0,0)).2]=(highsF L).take (j+1):=fun h=>by
  rw[List.take_succ_eq_append_getElem (by rw[highs_len];exact h),←highs_getD];simp[List.getD,highs_len,h]
 have hlt:((highsF L).take j).length=j:=by rw[List.length_take,highs_len];omega
 dsimp only[x94_0,x94_0d];simp only[↓hcsHg20,hlt,go_sem];try simp only[hlt,td,reduceCtorEq]
 refine ⟨fun hj'=>⟨hj',by omega,j+1,by omega,hj',w2 hj',hs hj'⟩,fun hj'=>?_⟩;exact List.take_of_length_le (by rw[highs_len];omega)
def entRst:Ent:=⟨55,.cons Z21 (.cons Z18 (.cons Z5 .nil)),.bool,false,none,fun x=>fitsG x.2.1 x.2.2.1=true,fun x=>restsF x.1 x.2.1 x.2.2.1⟩
def csRst:List Ent:=[entLw20,entHg20,entRun,entWCk] theorem hcsRst (f:FuncId):findEnt csRst f=findEnt [entLw20,entHg20,entRun,entWCk] f:=rfl
theorem conRst:Con Tryz.prog entRst:=by
 refine con_is (C:=csRst) x55 (by kernel_rfl) (by simp[csRst,conLw20,conHg20,conRun,conWCk]) fun x hx hf=>?_;obtain ⟨⟨(N:Int),(A:List DArc),(C:List DCar),(Q:List DReq),(P:List DPair),(S1:Int),(S2:Int),(S3:Int)⟩,⟨(W:List DWin),(L:List DLeg),(R:List DRide)⟩,(g:List Int),_⟩:=x;replace hx:fitsG (W,L,R) g=true:=hx;obtain ⟨hr,hgl,hgw⟩:=fitsG_iff.1 hx;have hlen:=(rightC_iff.1 hr).1;dsimp only at hgl hlen;have h1:rnF (W,L,R) g (lowsF L)=(playF g (lowsF L),0):=rn_lows hx;have h2:rnF (W,L,R) g (highsF L)=(playF g (highsF L),0):=rn_highs hx;have hLl:L.length≤1000:=by omega
 have hLi:(L.length:Int)≤1000:=by omega
 dsimp only[entRst,x55];simp only[↓hcsRst,entLw20,entHg20,entRun,entWCk,h1,h2,hLl,hLi,go_sem];try simp only[h1,h2,hLl,hLi,td,reduceCtorEq]
 refine ⟨by omega,?_⟩;have hbd:∀{t:List Int},Within 0 1048576 t→t.length=L.length→∀k,0≤(playF g t).getD k 0∧(playF g t).getD k 0≤100000000:=fun {t} ht hl k=>by
  rcases Nat.lt_or_ge t.length k with q|q
  ·rw[List.getD_eq_getElem?_getD,List.getElem?_eq_none (by rw[playF_len];omega)];exact ⟨Int.le_refl _,by decide⟩
  ·rw[playF_getD g t q];have:=tmF_bd hgw ht k;omega
 have hH:=hbd (highs_within hr) (highs_len L);have hE:=hbd (took_within hr (legs_took hr).1) (lows_len L);dsimp only at hH hE;have hHl:(playF g (highsF L)).length=L.length+1:=by rw[playF_len,highs_len]
 have hEl:(playF g (lowsF L)).length=L.length+1:=by rw[playF_len,lows_len]
 have hres:restsF (N,A,C,Q,P,S1,S2,S3) (W,L,R) g=decide ((checkK (S1,S2,S3) L (waitsF (W,L,R) g)).2=0):=rfl;refine XW_for 1000 x55_0d [0,1] Nat (fun j=>[(12,.val Z1 (j:Int))]) (fun j=>[(28,.row 89 Z8 (waitsTo (W,L,R) g j))]) (fun j=>1≤j∧j≤L.length+1) (fun j=>L.length+1-j) 1 ?_ ?_ ?_
 ·dsimp only[x55_0d];simp only[go_sem];exact ⟨rfl,(waitsTo_1 (W,L,R) g).symm⟩
 ·exact ⟨Nat.le_refl _,by omega⟩
 rintro j ⟨hj1,hj2⟩;have hwl:(waitsTo (W,L,R) g j).length=L.length:=waitsTo_len _ _ _;by_cases hjl:j<L.length
 ·have w2:IntKind.i64.wrap ((j:Int)+1)=((j+1:Nat):Int):=i64_in _ (by omega);have w3:IntKind.i64.wrap ((j:Int)-1)=((j-1:Nat):Int):=(i64_in _ (by omega)).trans (by omega);have hlg:=right_leg hr (k:=j-1) (show j-1<L.length by omega);replace hlg:0≤(L.getD (j-1) (0,0)).1∧(L.getD (j-1) (0,0)).1≤(L.getD (j-1) (0,0)).2∧(L.getD (j-1) (0,0)).2≤1048576:=hlg;have b1:=hH j;have b2:=hH (j-1);have b3:=hE j;have b4:=hE (j-1);have hat:waitAt (W,L,R) g j=((playF g (highsF L)).getD j 0-(playF g (highsF L)).getD (j-1) 0-(L.getD (j-1) (0,0)).2,(playF g (lowsF L)).getD j 0-(playF g (lowsF L)).getD (j-1) 0-(L.getD (j-1) (0,0)).1):=by
   unfold waitAt;rw[if_neg (by omega)]
  have hset:=waitsTo_set (W,L,R) g j;rw[hat] at hset;have v1:IntKind.i64.wrap ((playF g (highsF L)).getD j 0-(playF g (highsF L)).getD (j-1) 0)=(playF g (highsF L)).getD j 0-(playF g (highsF L)).getD (j-1) 0:=i64_in _ (by omega);have v2:IntKind.i64.wrap ((playF g (highsF L)).getD j 0-(playF g (highsF L)).getD (j-1) 0-(L.getD (j-1) (0,0)).2)=(playF g (highsF L)).getD j 0-(playF g (highsF L)).getD (j-1) 0-(L.getD (j-1) (0,0)).2:=i64_in _ (by omega);have v3:IntKind.i64.wrap ((playF g (lowsF L)).getD j 0-(playF g (lowsF L)).getD (j-1) 0)=(playF g (lowsF L)).getD j 0-(playF g (lowsF L)).getD (j-1) 0:=i64_in _ (by omega);have v4:IntKind.i64.wrap ((playF g (lowsF L)).getD j 0-(playF g (lowsF L)).getD (j-1) 0-(L.getD (j-1) (0,0)).1)=(playF g (lowsF L)).getD j 0-(playF g (lowsF L)).getD (j-1) 0-(L.getD (j-1) (0,0)).1:=i64_in _ (by omega);dsimp only[x55_0,x55_0d];simp only[↓hcsRst,entLw20,entHg20,entRun,entWCk,hwl,hHl,hEl,hjl,w2,w3,v1,v2,v3,v4,go_sem];simp only[hwl,hHl,hEl,hjl,w2,w3,v1,v2,v3,v4,hset,td,reduceCtorEq];exact ⟨by omega,j+1,by omega,⟨by omega,by omega⟩,rfl,rfl⟩
 ·have hall:=waitsTo_all (W,L,R) g (j:=j) (Nat.le_of_not_lt hjl);have hck:∀l,(checkK (S1,S2,S3) L l).2=(checkK (S1,S2,S3) L l).2:=fun _=>rfl;dsimp only[x55_0,x55_0d];simp only[↓hcsRst,entLw20,entHg20,entRun,entWCk,hwl,hjl,hall,hres,go_sem];try simp only[hwl,hjl,hall,hres,td,reduceCtorEq]
  have hwf:(waitsF (W,L,R) g).length=L.length:=by unfold waitsF;rw[List.length_map,List.length_range]
  exact ⟨fun h=>absurd (by rw[←hwf];exact h) hjl,fun _=>by rw[Bool.eq_iff_iff,beq_iff_eq,decide_eq_true_eq]⟩
def entCat:Ent:=⟨97,.cons Z14 .nil,Z5,false,none,fun x=>(x.1:List (List Int)).length≤1000∧∀l∈(x.1:List (List Int)),l.length≤1000,fun x=>(x.1:List (List Int)).flatten⟩
def csCat:List Ent:=[entGrow0] theorem hcsCat (f:FuncId):findEnt csCat f=findEnt [entGrow0] f:=rfl
theorem flat_take {S:List (List Int)} {j:Nat} (h:j<S.length):(S.take j).flatten++S.getD j []=(S.take (j+1)).flatten:=by
 rw[List.take_succ_eq_append_getElem h,List.flatten_append];simp[List.getD,h]
theorem flat_len {S:List (List Int)} (h:∀l∈S,l.length≤1000):∀j,(S.take j).flatten.length≤1000*j
 |0=>by simp
 |j+1=>by
  rcases Nat.lt_or_ge j S.length with q|q
  ·rw[←flat_take q,List.length_append];have h1:=flat_len h j;have h2:(S.getD j []).length≤1000:=h _ (by rw[List.getD_eq_getElem?_getD,List.getElem?_eq_getElem q];exact List.getElem_mem q);omega
  ·have h1:=flat_len h j;rw[List.take_of_length_le (by omega)];rw[List.take_of_length_le q] at h1;omega
set_option maxHeartbeats 1000000 in
theorem conCat:Con Tryz.prog entCat:=by
 refine con_is (C:=csCat) x97 (by kernel_rfl) (by simp[csCat,conGrow0]) fun x hx hf=>?_;obtain ⟨(S:List (List Int)),_⟩:=x;obtain ⟨hSl,hSe⟩:=hx;replace hSl:S.length≤1000:=hSl;replace hSe:∀l∈S,l.length≤1000:=hSe;dsimp only[entCat,x97];simp only[↓hcsCat,entGrow0,go_sem];try simp only[td,reduceCtorEq]
 refine XW_for 1000 x97_0d [] Nat (fun j=>[(11,.val Z1 (j:Int)),(3,.val Z1 (((S.take j).flatten.length:Nat):Int))]) (fun _=>[]) (fun j=>j≤S.length) (fun j=>S.length-j) 0 ?_ ?_ ?_
 ·dsimp only[x97_0d];simp only[go_sem];try trivial
 ·exact Nat.zero_le _
 intro j hj;by_cases hjl:j<S.length
 ·have w2:IntKind.i64.wrap ((j:Int)+1)=((j+1:Nat):Int):=i64_in _ (by omega);have h1:=flat_len hSe (j+1);have h2:(S.take (j+1)).flatten.length=(S.take j).flatten.length+(S.getD j []).length:=by rw[←flat_take hjl,List.length_append]
  have w3:IntKind.i64.wrap (((S.take j).flatten.length:Int)+((S.getD j []).length:Int))=(((S.take (j+1)).flatten.length:Nat):Int):=(i64_in _ (by omega)).trans (by omega);dsimp only[x97_0,x97_0d,Z5,Za,Zb,Ze];simp only[↓hcsCat,entGrow0,hjl,w2,w3,go_sem];simp only[hjl,w2,w3,td,reduceCtorEq];exact ⟨fun h=>by omega,j+1,by omega,by omega,rfl,rfl⟩
 ·obtain rfl:j=S.length:=by omega
  have hfl:(S.take S.length).flatten=S.flatten:=by rw[List.take_length]
  have h1:=flat_len hSe S.length;rw[hfl] at h1;have h2:(0:Int)≤(S.flatten.length:Int):=by omega
  have h3:(S.flatten.length:Int)≤1000000:=by omega
  dsimp only[x97_0,x97_0d,Z5,Za,Zb,Ze];simp only[↓hcsCat,entGrow0,hjl,hfl,h2,h3,go_sem];simp only[hjl,hfl,h2,h3,td,reduceCtorEq];refine XW_for 2000 x97_1d [] Nat (fun j=>[(27,.val Z1 (j:Int)),(6,.own 1002)]) (fun j=>[(1002,.row 3 (.int .i64) (S.take j).flatten)]) (fun j=>j≤S.length) (fun j=>S.length-j) 0 ?_ ?_ ?_
  ·dsimp only[x97_1d];simp only[go_sem];try trivial
  ·exact Nat.zero_le _
  intro j hj;by_cases hjl:j<S.length
  ·have w2:IntKind.i64.wrap ((j:Int)+1)=((j+1:Nat):Int):=i64_in _ (by omega);have hft:=flat_take hjl;have h4:=flat_len hSe j;have h5:(S.getD j []).length≤1000:=hSe _ (by rw[List.getD_eq_getElem?_getD,List.getElem?_eq_getElem hjl];exact List.getElem_mem hjl);dsimp only[x97_1,x97_1d];simp only[↓hcsCat,entGrow0,hjl,w2,hft,go_sem];simp only[hjl,w2,hft,td,reduceCtorEq];refine ⟨?_,j+1,by omega,by omega,rfl,rfl⟩;show ((S.take j).flatten.length+(S.getD j []).length)*8≤140737488355328;omega
  ·obtain rfl:j=S.length:=by omega
   dsimp only[x97_1,x97_1d];simp only[↓hcsCat,entGrow0,hjl,hfl,go_sem];try simp only[hjl,hfl,td,reduceCtorEq]
end T
end Go.Proofs.YtpocfbfmjippnaaGreat
end
