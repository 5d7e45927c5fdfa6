/- Parts of the proof of the law; no condition. -/
import Derived.Test.YtpocfbfmjippnaaGreatG20
set_option linter.all false
section
namespace Go.Proofs.YtpocfbfmjippnaaGreat
open Go.RowKit Go.IntWalk
namespace T
theorem sumK_pick {rs:List DReq} {p:Int×Bool}:∀{L:List (Int×Bool)} {i:Nat},L[i]?=some p→sumK rs (L.map (·.1))=add3 (rl rs p.1) (sumK rs ((L.eraseIdx i).map (·.1)))
 |[],_,h=>by simp at h
 |q::r,0,h=>by
  simp only[List.getElem?_cons_zero,Option.some.injEq] at h;subst h;rfl
 |q::r,i+1,h=>by
  simp only[List.getElem?_cons_succ] at h;rw[List.map_cons,sumK,sumK_pick h,List.eraseIdx_cons_succ,List.map_cons,sumK,←add3_assoc,add3_comm (rl rs q.1),add3_assoc]
theorem any_pick {α:Type} {f:α→Bool} {p:α}:∀{L:List α} {i:Nat},L[i]?=some p→f p=false→(L.eraseIdx i).any f=L.any f
 |[],_,h,_=>by simp at h
 |q::r,0,h,hf=>by
  simp only[List.getElem?_cons_zero,Option.some.injEq] at h;subst h;simp[hf]
 |q::r,i+1,h,hf=>by
  simp only[List.getElem?_cons_succ] at h;rw[List.eraseIdx_cons_succ,List.any_cons,List.any_cons,any_pick h hf]
abbrev DMap:=List (Int×Bool)
def entCLoad:Ent:=⟨194,.cons (.mp .i64 .bool) (.cons Z7 .nil),Z3,false,none,fun x=>(x.1:DMap).length≤30000∧∀k∈(x.1:DMap),(0≤k.1∧k.1<(x.2.1:List DReq).length)∧placesB (rl x.2.1 k.1)=true,fun x=>sumK x.2.1 ((x.1:DMap).map (·.1))⟩
def csCl:List Ent:=[entOf] theorem hcsCl (f:FuncId):findEnt csCl f=findEnt [entOf] f:=rfl
theorem conCLoad:Con Tryz.prog entCLoad:=by
 refine con_is (C:=csCl) x194 (by kernel_rfl) (by simp[csCl,conOf]) fun x hx hf=>?_;obtain ⟨(H:DMap),(rs:List DReq),_⟩:=x;obtain ⟨hn,hk⟩:=hx;dsimp only at hn hk;dsimp only[entCLoad,x194];simp only[↓hcsCl,entOf,go_sem];try simp only[td,reduceCtorEq]
 refine XW_for 1000 x194_0d [0] (DMap×DLoad) (fun _=>[])
  (fun s=>[(3,.it .i64 .bool s.1 none),(1,.box 192 [.val Z1 s.2.1,.val Z1 s.2.2.1,.val Z1 s.2.2.2])])
  (fun s=>add3 s.2 (sumK rs (s.1.map (·.1)))=sumK rs (H.map (·.1))∧(∀k∈s.1,k∈H)∧s.1.length≤H.length∧(0≤s.2.1∧s.2.1≤60*(H.length-s.1.length))∧(0≤s.2.2.1∧s.2.2.1≤60*(H.length-s.1.length))∧0≤s.2.2.2∧s.2.2.2≤60*(H.length-s.1.length))
  (fun s=>s.1.length) (H,0,0,0) ?_ ?_ ?_
 ·dsimp only[x194_0d];simp only[go_sem];try trivial
 ·exact ⟨zero_add3 _,fun k hk=>hk,Nat.le_refl _,by dsimp only;omega,by dsimp only;omega,by dsimp only;omega⟩
 ·rintro ⟨L,s1,s2,s3⟩ ⟨hs,hL,hlen,hb1,hb2,hb3⟩;dsimp only at hs hL hlen hb1 hb2 hb3;dsimp only[x194_0,x194_0d,Z1,Z3,Z6,Za,Zb,Zc,Ze,Zh,Zi];simp only[↓hcsCl,entOf,go_sem];try simp only[td,reduceCtorEq]
  refine ⟨fun h0=>?_,fun i p hi=>?_⟩
  ·subst h0;rw[←hs];exact (add3_zero _).symm
  ·have hil:=(List.getElem?_eq_some_iff.1 hi).1;have hpH:p∈H:=hL p (List.mem_of_getElem? hi);obtain ⟨hr,hpl⟩:=hk p hpH;have hpl:=placesB_iff.1 hpl;unfold rl at hpl;have hle:(L.eraseIdx i).length=L.length-1:=List.length_eraseIdx_of_lt hil;have hpk:=sumK_pick (rs:=rs) hi;refine ⟨hr,(L.eraseIdx i,add3 (s1,s2,s3) (rl rs p.1)),by rw[hle];omega,⟨?_,fun k hk=>hL k (List.mem_of_mem_eraseIdx hk),by rw[hle];omega,?_⟩,rfl,?_⟩
   ·rw[add3_assoc,←hpk];exact hs
   ·rw[hle];unfold add3 rl;dsimp only[dReq] at hpl⊢;omega
   ·unfold add3 rl;dsimp only[dReq] at hpl⊢;exact ⟨i64_in _ (by omega),i64_in _ (by omega),i64_in _ (by omega)⟩
def entCHas:Ent:=⟨145,.cons (.mp .i64 .bool) (.cons Z1 (.cons Z7 .nil)),.bool,false,none,fun x=>∀k∈(x.1:DMap),(0≤k.1∧k.1<(x.2.2.1:List DReq).length),fun x=>(x.1:DMap).any fun k=>decide (((x.2.2.1:List DReq).getD k.1.toNat dReq).1=x.2.1)⟩
def csCh:List Ent:=[] theorem hcsCh (f:FuncId):findEnt csCh f=findEnt [] f:=rfl
theorem conCHas:Con Tryz.prog entCHas:=by
 refine con_is (C:=csCh) x145 (by kernel_rfl) (by simp[csCh]) fun x hx hf=>?_;obtain ⟨(H:DMap),(m:Int),(rs:List DReq),_⟩:=x;have hx:∀k∈H,(0≤k.1∧k.1<rs.length):=hx;dsimp only[entCHas,x145];simp only[↓hcsCh,go_sem];try simp only[td,reduceCtorEq]
 refine XW_for 1000 x145_0d [] DMap (fun _=>[]) (fun s=>[(2,.it .i64 .bool s none)])
  (fun s=>(∀k∈s,k∈H)∧s.any (fun k=>decide ((rs.getD k.1.toNat dReq).1=m))=H.any fun k=>decide ((rs.getD k.1.toNat dReq).1=m)) (fun s=>s.length) H ?_ ?_ ?_
 ·dsimp only[x145_0d];simp only[go_sem];try trivial
 ·exact ⟨fun k hk=>hk,rfl⟩
 ·rintro L ⟨hL,ha⟩;dsimp only[x145_0,x145_0d,Z1,Z6,Za,Zb,Ze];simp only[↓hcsCh,go_sem];try simp only[td,reduceCtorEq]
  refine ⟨fun h0=>by subst h0;exact ha,fun i p hi=>⟨hx p (hL p (List.mem_of_getElem? hi)),fun q=>?_,fun q=>⟨L.eraseIdx i,?_,⟨fun k hk=>hL k (List.mem_of_mem_eraseIdx hk),?_⟩,rfl⟩⟩⟩
  ·symm;rw[List.any_eq_true];exact ⟨p,hL p (List.mem_of_getElem? hi),decide_eq_true q⟩
  ·have hil:=(List.getElem?_eq_some_iff.1 hi).1;rw[List.length_eraseIdx_of_lt hil];omega
  ·rw[←ha];exact any_pick hi (decide_eq_false q)
theorem fst_keys (ks:List Int):(ks.map fun k=>(k,true)).map (fun x=>x.fst)=ks:=by rw[List.map_map];exact List.map_id _
theorem nodup_len:∀{n:Nat} {ks:List Int},ks.Nodup→(∀k∈ks,0≤k∧k<n)→ks.length≤n
 |0,[],_,_=>Nat.le_refl _
 |0,k::r,_,h=>by have:=h k (by simp);omega
 |n+1,ks,hn,h=>by
  have h1:(kdel ks n).length≤n:=nodup_len (kdel_nodup hn) fun k hk=>by
   have:=(mem_kdel hn).1 hk;have:=h k this.1;omega
  have h2:∀(k:Int) (ks:List Int),ks.length≤(kdel ks k).length+1:=fun k ks=>by
   induction ks with
   |nil=>simp
   |cons p r ih=>unfold kdel;split<;>simp<;>omega
  have:=h2 n ks;omega
theorem look_ok {ss:List DStop} {rs:List DReq} (hr:RightS ss rs) {j:Nat} (hj:j≤ss.length):((cabK ss j).map fun k=>(k,true)).length≤30000∧∀k∈(cabK ss j).map fun k=>(k,true),(0≤k.1∧k.1<rs.length)∧placesB (rl rs k.1)=true:=by
 obtain ⟨h1,h2⟩:=cab_mem hr hj;have h3:∀k∈cabK ss j,(0≤k∧k<rs.length)∧placesB (rl rs k)=true:=fun k hk=>hr.in_req ((h2 k).1 hk);refine ⟨?_,fun k hk=>?_⟩
 ·rw[List.length_map];have:=nodup_len h1 fun k hk=>(h3 k hk).1;have:=hr.1.2;omega
 ·obtain ⟨x,hx,rfl⟩:=List.mem_map.1 hk;exact h3 x hx
def entProf:Ent:=⟨139,.cons Z15 (.cons Z7 .nil),.cons Z17 (.cons Z1 .nil),true,none,fun _=>True,fun x=>((profF x.1 x.2.1).1,(profF x.1 x.2.1).2,())⟩
def csPrf:List Ent:=[entRightS,entCLoad] theorem hcsPrf (f:FuncId):findEnt csPrf f=findEnt [entRightS,entCLoad] f:=rfl
theorem conProf:Con Tryz.prog entProf:=by
 refine con_is (C:=csPrf) x139 (by kernel_rfl) (by simp[csPrf,conRightS,conCLoad]) fun x hx hf=>?_;obtain ⟨(ss:List DStop),(rs:List DReq),_⟩:=x;have hl:ss.length≤9223372036854775807:=hf.1.1;dsimp only[entProf,x139,x192,x196,x197,x193,Z3,Z7,Za,Zb,Ze];simp only[↓hcsPrf,entRightS,entCLoad,go_sem];try simp only[td,reduceCtorEq]
 refine ⟨fun h=>by unfold profF;rw[if_neg (by rw[h];simp)],fun h=>?_⟩;have hr:RightS ss rs:=of_decide_eq_true h;have hl:ss.length≤80:=hr.1.1;have hrl:rs.length≤30000:=hr.1.2;refine XW_for 1000 x196_0d [0,1,9] Nat (fun j=>[(11,.val Z1 (j:Int))]) (fun j=>[(12,.mp .i64 .bool ((dropsK (ss.take j)).map fun k=>(k,true)))])
  (fun j=>j≤ss.length) (fun j=>ss.length-j) 0 ?_ ?_ ?_
 ·dsimp only[x196_0d];simp only[go_sem];try trivial
 ·exact Nat.zero_le _
 ·rintro j hj;dsimp only[x196_0,x196_0d];simp only[↓hcsPrf,entRightS,entCLoad,go_sem];try simp only[td,reduceCtorEq]
  by_cases hj':j<ss.length
  ·have w2:IntKind.i64.wrap ((j:Int)+1)=((j+1:Nat):Int):=i64_in _ (by omega);have hd:=dropsK_next hj';dsimp only[dStop] at hd;simp only[hj',w2,mset_keys,td,reduceCtorEq];refine ⟨fun q=>⟨j+1,by omega,hj',rfl,?_⟩,fun q=>⟨j+1,by omega,hj',rfl,?_⟩⟩
   ·rw[hd,dropK,if_neg (by rw[q];simp)]
   ·rw[hd,dropK,if_pos q]
  obtain rfl:j=ss.length:=by omega
  rw[List.take_of_length_le (Nat.le_refl _)];simp only[hj',td,reduceCtorEq];refine XW_for 2000 x196_1d [0,1,9] Nat (fun j=>[(24,.val Z1 (j:Int))]) (fun j=>[(12,.mp .i64 .bool ((firstK ss (ss.take j)).map fun k=>(k,true)))])
   (fun j=>j≤ss.length) (fun j=>ss.length-j) 0 ?_ ?_ ?_
  ·dsimp only[x196_1d];simp only[go_sem];try trivial
  ·exact Nat.zero_le _
  ·rintro j hj;dsimp only[x196_1,x196_1d];simp only[↓hcsPrf,entRightS,entCLoad,go_sem];try simp only[td,reduceCtorEq]
   by_cases hj':j<ss.length
   ·have w2:IntKind.i64.wrap ((j:Int)+1)=((j+1:Nat):Int):=i64_in _ (by omega);have hd:=firstK_next (ss:=ss) hj';dsimp only[dStop] at hd;simp only[hj',w2,mdel_keys,td,reduceCtorEq];refine ⟨fun q=>⟨j+1,by omega,hj',rfl,?_⟩,fun q=>⟨j+1,by omega,hj',rfl,?_⟩⟩
    ·rw[hd,pickK,if_pos q]
    ·rw[hd,pickK,if_neg (by rw[q];simp)]
   obtain rfl:j=ss.length:=by omega
   rw[List.take_of_length_le (Nat.le_refl _)];simp only[hj',fst_keys,td,reduceCtorEq];have hlook:∀j,j≤ss.length→((cabK ss j).map fun k=>(k,true)).length≤30000∧∀k∈(cabK ss j).map fun k=>(k,true),(0≤k.1∧k.1<rs.length)∧placesB (rl rs k.1)=true:=fun j hj=>look_ok hr hj;refine ⟨hlook 0 (Nat.zero_le _),?_⟩;refine XW_for 3000 x192_0d [0,1,9] Nat (fun j=>[(17,.val Z1 (j:Int)),(6,.own 2011)])
    (fun j=>[(2011,.row 192 Z3 ((List.range (j+1)).map fun i=>sumK rs (cabK ss i))),(12,.mp .i64 .bool ((cabK ss j).map fun k=>(k,true)))]) (fun j=>j≤ss.length) (fun j=>ss.length-j) 0 ?_ ?_ ?_
   ·dsimp only[x192_0d];simp only[go_sem];exact ⟨rfl,rfl,rfl⟩
   ·exact Nat.zero_le _
   ·rintro j hj;dsimp only[x192_0,x192_0d,x197,x193,Z2,Z3,Za,Zb,Zc,Ze];simp only[↓hcsPrf,entRightS,entCLoad,go_sem];try simp only[mset_keys,mdel_keys,fst_keys,td,reduceCtorEq]
    have w2:j<ss.length→IntKind.i64.wrap ((j:Int)+1)=((j+1:Nat):Int):=fun h=>i64_in _ (by omega);have hlen:(((List.range (j+1)).map fun i=>sumK rs (cabK ss i)).length+1)*24≤140737488355328:=by rw[List.length_map,List.length_range];omega
    have hsucc:(List.range (j+1+1)).map (fun i=>sumK rs (cabK ss i))=(List.range (j+1)).map (fun i=>sumK rs (cabK ss i))++[sumK rs (cabK ss (j+1))]:=by rw[List.range_succ,List.map_append];rfl
    have hst:cabK ss (j+1)=stopK (cabK ss j) (ss.getD j (0,false)):=rfl;refine ⟨fun hj'=>⟨hj',fun q=>?_,fun q=>?_⟩,fun hj'=>?_⟩
    ·rw[stopK,if_pos q] at hst;rw[←hst];exact ⟨hlook (j+1) hj',hlen,j+1,by omega,hj',w2 hj',hsucc.symm,rfl⟩
    ·rw[stopK,if_neg (by rw[q];simp)] at hst;rw[←hst];exact ⟨hlook (j+1) hj',hlen,j+1,by omega,hj',w2 hj',hsucc.symm,rfl⟩
    ·obtain rfl:j=ss.length:=by omega
     unfold profF;rw[if_pos h];unfold loadsF;have:(List.range (ss.length+1)).map (fun i=>sumK rs (cabK ss i))=(List.range (ss.length+1)).map fun j=>afterF ss rs (j:Nat):=List.map_congr_left fun i hi=>cab_load hr (by rw[List.mem_range] at hi;omega);rw[this]
end T
end Go.Proofs.YtpocfbfmjippnaaGreat
end
