/- Parts of the proof of the law; no condition. -/
import Derived.Test.YtpocfbfmjippnaaGreatF12
set_option linter.all false
section
namespace Go.Proofs.YtpocfbfmjippnaaGreat
namespace T
def waitAt (c:DChain) (g:List Int) (k:Nat):DLeg:=
 if k=0 then (0,0) else ((playF g (highsF c.2.1)).getD k 0-(playF g (highsF c.2.1)).getD (k-1) 0-(c.2.1.getD (k-1) (0,0)).2,(playF g (lowsF c.2.1)).getD k 0-(playF g (lowsF c.2.1)).getD (k-1) 0-(c.2.1.getD (k-1) (0,0)).1)
def waitsF (c:DChain) (g:List Int):List DLeg:=(List.range c.2.1.length).map (waitAt c g)
def waitsTo (c:DChain) (g:List Int) (j:Nat):List DLeg:=(List.range c.2.1.length).map fun k=>if k<j then waitAt c g k else (0,0)
def restsF (w:DWorld) (c:DChain) (g:List Int):Bool:=decide ((checkK w.2.2.2.2.2 c.2.1 (waitsF c g)).2=0)
theorem waitsTo_len (c:DChain) (g:List Int) (j:Nat):(waitsTo c g j).length=c.2.1.length:=by unfold waitsTo;rw[List.length_map,List.length_range]
theorem waitsTo_at (c:DChain) (g:List Int) (j k:Nat) (h:k<(waitsTo c g j).length):(waitsTo c g j)[k]=if k<j then waitAt c g k else (0,0):=by simp[waitsTo]
theorem waitsTo_1 (c:DChain) (g:List Int):waitsTo c g 1=List.replicate c.2.1.length (0,0):=by
 refine List.ext_getElem (by rw[waitsTo_len,List.length_replicate]) fun k h1 h2=>?_;rw[waitsTo_at,List.getElem_replicate];split
 ·rw[show k=0 by omega];rfl
 ·rfl
theorem waitsTo_set (c:DChain) (g:List Int) (j:Nat):(waitsTo c g j).set j (waitAt c g j)=waitsTo c g (j+1):=by
 refine List.ext_getElem (by rw[List.length_set,waitsTo_len,waitsTo_len]) fun k h1 h2=>?_;rw[List.getElem_set,waitsTo_at,waitsTo_at];by_cases q:j=k
 ·subst q;rw[if_pos rfl,if_pos (by omega)]
 ·rw[if_neg q];by_cases q2:k<j
  ·rw[if_pos q2,if_pos (by omega)]
  ·rw[if_neg q2,if_neg (by omega)]
theorem waitsTo_all (c:DChain) (g:List Int) {j:Nat} (h:c.2.1.length≤j):waitsTo c g j=waitsF c g:=by
 unfold waitsTo waitsF;refine List.map_congr_left fun k hk=>?_;have:=List.mem_range.1 hk;rw[if_pos (by omega)]
theorem legs_took {c:DChain} (h:rightC c=true):tookB c.2.1 (lowsF c.2.1)=true∧tookB c.2.1 (highsF c.2.1)=true:=by
 refine ⟨tookB_iff.2 ⟨lows_len _,fun k hk=>?_⟩,tookB_iff.2 ⟨highs_len _,fun k hk=>?_⟩⟩
 ·rw[lows_getD];have:=right_leg h hk;omega
 ·rw[highs_getD];have:=right_leg h hk;omega
theorem rn_lows {c:DChain} {g:List Int} (h:fitsG c g=true):rnF c g (lowsF c.2.1)=(playF g (lowsF c.2.1),0):=by
 unfold rnF;rw[if_pos ⟨h,(legs_took (fitsG_iff.1 h).1).1⟩]
theorem rn_highs {c:DChain} {g:List Int} (h:fitsG c g=true):rnF c g (highsF c.2.1)=(playF g (highsF c.2.1),0):=by
 unfold rnF;rw[if_pos ⟨h,(legs_took (fitsG_iff.1 h).1).2⟩]
end T
end Go.Proofs.YtpocfbfmjippnaaGreat
end
section
namespace Go.Proofs.YtpocfbfmjippnaaGreat
open Go.RowKit Go.IntWalk
namespace T
def entCat:Ent:=⟨97,.cons Z18 .nil,Z9,false,none,fun x=>(x.1:List (List Int)).length≤1000∧∀l∈(x.1:List (List Int)),l.length≤1000,fun x=>(x.1:List (List Int)).flatten⟩
def csCat:List Ent:=[entGrow0] theorem hcsCat (f:FuncId):findEnt csCat f=findEnt [entGrow0] f:=rfl
theorem flat_take {S:List (List Int)} {j:Nat} (h:j<S.length):(S.take j).flatten++S.getD j []=(S.take (j+1)).flatten:=by
 rw[List.take_succ_eq_append_getElem h,List.flatten_append];simp[List.getD,h]
theorem flat_len {S:List (List Int)} (h:∀l∈S,l.length≤1000):∀j,(S.take j).flatten.length≤1000*j
 |0=>by simp
 |j+1=>by
  rcases Nat.lt_or_ge j S.length with q|q
  ·rw[←flat_take q,List.length_append];have h1:=flat_len h j;have h2:(S.getD j []).length≤1000:=h _ (by rw[List.getD_eq_getElem?_getD,List.getElem?_eq_getElem q];exact List.getElem_mem q);omega
  ·have h1:=flat_len h j;rw[List.take_of_length_le (by omega)];rw[List.take_of_length_le q] at h1;omega
set_option maxHeartbeats 1000000 in
theorem conCat:Con Tryz.prog entCat:=by
 refine con_is (C:=csCat) x97 (by kernel_rfl) (by simp[csCat,conGrow0]) fun x hx hf=>?_;obtain ⟨(S:List (List Int)),_⟩:=x;obtain ⟨hSl,hSe⟩:=hx;replace hSl:S.length≤1000:=hSl;replace hSe:∀l∈S,l.length≤1000:=hSe;dsimp only[entCat,x97,Z1,Za,Zb,Zg];simp only[↓hcsCat,entGrow0,go_sem];try simp only[td,reduceCtorEq]
 refine XW_for 1000 x97_0d [] Nat (fun j=>[(11,.val Z1 (j:Int)),(3,.val Z1 (((S.take j).flatten.length:Nat):Int))]) (fun _=>[]) (fun j=>j≤S.length) (fun j=>S.length-j) 0 ?_ ?_ ?_
 ·dsimp only[x97_0d];simp only[go_sem];try trivial
 ·exact Nat.zero_le _
 intro j hj;by_cases hjl:j<S.length
 ·have w2:IntKind.i64.wrap ((j:Int)+1)=((j+1:Nat):Int):=i64_in _ (by omega);have h1:=flat_len hSe (j+1);have h2:(S.take (j+1)).flatten.length=(S.take j).flatten.length+(S.getD j []).length:=by rw[←flat_take hjl,List.length_append]
  have w3:IntKind.i64.wrap (((S.take j).flatten.length:Int)+((S.getD j []).length:Int))=(((S.take (j+1)).flatten.length:Nat):Int):=(i64_in _ (by omega)).trans (by omega);dsimp only[x97_0,x97_0d,Z9,Za,Zb,Zg];simp only[↓hcsCat,entGrow0,hjl,w2,w3,go_sem];simp only[hjl,w2,w3,td,reduceCtorEq];exact ⟨fun h=>by omega,j+1,by omega,by omega,rfl,rfl⟩
 ·obtain rfl:j=S.length:=by omega
  have hfl:(S.take S.length).flatten=S.flatten:=by rw[List.take_length]
  have h1:=flat_len hSe S.length;rw[hfl] at h1;have h2:(0:Int)≤(S.flatten.length:Int):=by omega
  have h3:(S.flatten.length:Int)≤1000000:=by omega
  dsimp only[x97_0,x97_0d,Z9,Za,Zb,Zg];simp only[↓hcsCat,entGrow0,hjl,hfl,h2,h3,go_sem];simp only[hjl,hfl,h2,h3,td,reduceCtorEq];refine XW_for 2000 x97_1d [] Nat (fun j=>[(27,.val Z1 (j:Int)),(6,.own 1002)]) (fun j=>[(1002,.row 3 (.int .i64) (S.take j).flatten)]) (fun j=>j≤S.length) (fun j=>S.length-j) 0 ?_ ?_ ?_
  ·dsimp only[x97_1d];simp only[go_sem];try trivial
  ·exact Nat.zero_le _
  intro j hj;by_cases hjl:j<S.length
  ·have w2:IntKind.i64.wrap ((j:Int)+1)=((j+1:Nat):Int):=i64_in _ (by omega);have hft:=flat_take hjl;have h4:=flat_len hSe j;have h5:(S.getD j []).length≤1000:=hSe _ (by rw[List.getD_eq_getElem?_getD,List.getElem?_eq_getElem hjl];exact List.getElem_mem hjl);dsimp only[x97_1,x97_1d,Z1,Z9,Za,Zb,Zg];simp only[↓hcsCat,entGrow0,hjl,w2,hft,go_sem];simp only[hjl,w2,hft,td,reduceCtorEq];refine ⟨?_,j+1,by omega,by omega,rfl,rfl⟩;show ((S.take j).flatten.length+(S.getD j []).length)*8≤140737488355328;omega
  ·obtain rfl:j=S.length:=by omega
   dsimp only[x97_1,x97_1d,Z1,Z9,Za,Zb,Zg];simp only[↓hcsCat,entGrow0,hjl,hfl,go_sem];try simp only[hjl,hfl,td,reduceCtorEq]
end T
end Go.Proofs.YtpocfbfmjippnaaGreat
end
