/- Parts of the proof of the law; no condition. -/
import Derived.Test.YtpocfbfmjippnaaGreatH23
set_option linter.all false
section
namespace Go.Proofs.YtpocfbfmjippnaaGreat
open Go.RowKit Go.IntWalk
namespace T
theorem fst_keys (ks:List Int):(ks.map fun k=>(k,true)).map (fun x=>x.fst)=ks:=by rw[List.map_map];exact List.map_id _
theorem nodup_len:∀{n:Nat} {ks:List Int},ks.Nodup→(∀k∈ks,0≤k∧k<n)→ks.length≤n
 |0,[],_,_=>Nat.le_refl _
 |0,k::r,_,h=>by have:=h k (by simp);omega
 |n+1,ks,hn,h=>by
  have h1:(kdel ks n).length≤n:=nodup_len (kdel_nodup hn) fun k hk=>by
   have:=(mem_kdel hn).1 hk;have:=h k this.1;omega
  have h2:∀(k:Int) (ks:List Int),ks.length≤(kdel ks k).length+1:=fun k ks=>by
   induction ks with
   |nil=>simp
   |cons p r ih=>unfold kdel;split<;>simp<;>omega
  have:=h2 n ks;omega
theorem look_ok {ss:List DStop} {rs:List DReq} (hr:RightS ss rs) {j:Nat} (hj:j≤ss.length):((cabK ss j).map fun k=>(k,true)).length≤30000∧∀k∈(cabK ss j).map fun k=>(k,true),(0≤k.1∧k.1<rs.length)∧placesB (rl rs k.1)=true:=by
 obtain ⟨h1,h2⟩:=cab_mem hr hj;have h3:∀k∈cabK ss j,(0≤k∧k<rs.length)∧placesB (rl rs k)=true:=fun k hk=>hr.in_req ((h2 k).1 hk);refine ⟨?_,fun k hk=>?_⟩
 ·rw[List.length_map];have:=nodup_len h1 fun k hk=>(h3 k hk).1;have:=hr.1.2;omega
 ·obtain ⟨x,hx,rfl⟩:=List.mem_map.1 hk;exact h3 x hx
def entProf:Ent:=⟨139,.cons Z15 (.cons Z7 .nil),.cons Z17 (.cons Z1 .nil),true,none,fun _=>True,fun x=>((profF x.1 x.2.1).1,(profF x.1 x.2.1).2,())⟩
def csPrf:List Ent:=[entRightS,entCLoad] theorem hcsPrf (f:FuncId):findEnt csPrf f=findEnt [entRightS,entCLoad] f:=rfl
theorem conProf:Con Tryz.prog entProf:=by
 refine con_is (C:=csPrf) x139 (by kernel_rfl) (by simp[csPrf,conRightS,conCLoad]) fun x hx hf=>?_;obtain ⟨(ss:List DStop),(rs:List DReq),_⟩:=x;have hl:ss.length≤9223372036854775807:=hf.1.1;dsimp only[entProf,x139,x192,x196,x197,x193,Z3,Z7,Za,Zb,Ze];simp only[↓hcsPrf,entRightS,entCLoad,go_sem];try simp only[td,reduceCtorEq]
 refine ⟨fun h=>by unfold profF;rw[if_neg (by rw[h];simp)],fun h=>?_⟩;have hr:RightS ss rs:=of_decide_eq_true h;have hl:ss.length≤80:=hr.1.1;have hrl:rs.length≤30000:=hr.1.2;refine XW_for 1000 x196_0d [0,1,9] Nat (fun j=>[(11,.val Z1 (j:Int))]) (fun j=>[(12,.mp .i64 .bool ((dropsK (ss.take j)).map fun k=>(k,true)))])
  (fun j=>j≤ss.length) (fun j=>ss.length-j) 0 ?_ ?_ ?_
 ·dsimp only[x196_0d];simp only[go_sem];try trivial
 ·exact Nat.zero_le _
 ·rintro j hj;dsimp only[x196_0,x196_0d];simp only[↓hcsPrf,entRightS,entCLoad,go_sem];try simp only[td,reduceCtorEq]
  by_cases hj':j<ss.length
  ·have w2:IntKind.i64.wrap ((j:Int)+1)=((j+1:Nat):Int):=i64_in _ (by omega);have hd:=dropsK_next hj';dsimp only[dStop] at hd;simp only[hj',w2,mset_keys,td,reduceCtorEq];refine ⟨fun q=>⟨j+1,by omega,hj',rfl,?_⟩,fun q=>⟨j+1,by omega,hj',rfl,?_⟩⟩
   ·rw[hd,dropK,if_neg (by rw[q];simp)]
   ·rw[hd,dropK,if_pos q]
  obtain rfl:j=ss.length:=by omega
  rw[List.take_of_length_le (Nat.le_refl _)];simp only[hj',td,reduceCtorEq];refine XW_for 2000 x196_1d [0,1,9] Nat (fun j=>[(24,.val Z1 (j:Int))]) (fun j=>[(12,.mp .i64 .bool ((firstK ss (ss.take j)).map fun k=>(k,true)))])
   (fun j=>j≤ss.length) (fun j=>ss.length-j) 0 ?_ ?_ ?_
  ·dsimp only[x196_1d];simp only[go_sem];try trivial
  ·exact Nat.zero_le _
  ·rintro j hj;dsimp only[x196_1,x196_1d];simp only[↓hcsPrf,entRightS,entCLoad,go_sem];try simp only[td,reduceCtorEq]
   by_cases hj':j<ss.length
   ·have w2:IntKind.i64.wrap ((j:Int)+1)=((j+1:Nat):Int):=i64_in _ (by omega);have hd:=firstK_next (ss:=ss) hj';dsimp only[dStop] at hd;simp only[hj',w2,mdel_keys,td,reduceCtorEq];refine ⟨fun q=>⟨j+1,by omega,hj',rfl,?_⟩,fun q=>⟨j+1,by omega,hj',rfl,?_⟩⟩
    ·rw[hd,pickK,if_pos q]
    ·rw[hd,pickK,if_neg (by rw[q];simp)]
   obtain rfl:j=ss.length:=by omega
   rw[List.take_of_length_le (Nat.le_refl _)];simp only[hj',fst_keys,td,reduceCtorEq];have hlook:∀j,j≤ss.length→((cabK ss j).map fun k=>(k,true)).length≤30000∧∀k∈(cabK ss j).map fun k=>(k,true),(0≤k.1∧k.1<rs.length)∧placesB (rl rs k.1)=true:=fun j hj=>look_ok hr hj;refine ⟨hlook 0 (Nat.zero_le _),?_⟩;refine XW_for 3000 x192_0d [0,1,9] Nat (fun j=>[(17,.val Z1 (j:Int)),(6,.own 2011)])
    (fun j=>[(2011,.row 192 Z3 ((List.range (j+1)).map fun i=>sumK rs (cabK ss i))),(12,.mp .i64 .bool ((cabK ss j).map fun k=>(k,true)))]) (fun j=>j≤ss.length) (fun j=>ss.length-j) 0 ?_ ?_ ?_
   ·dsimp only[x192_0d];simp only[go_sem];exact ⟨rfl,rfl,rfl⟩
   ·exact Nat.zero_le _
   ·rintro j hj;dsimp only[x192_0,x192_0d,x197,x193,Z2,Z3,Za,Zb,Zc,Ze];simp only[↓hcsPrf,entRightS,entCLoad,go_sem];try simp only[mset_keys,mdel_keys,fst_keys,td,reduceCtorEq]
    have w2:j<ss.length→IntKind.i64.wrap ((j:Int)+1)=((j+1:Nat):Int):=fun h=>i64_in _ (by omega);have hlen:(((List.range (j+1)).map fun i=>sumK rs (cabK ss i)).length+1)*24≤140737488355328:=by rw[List.length_map,List.length_range];omega
    have hsucc:(List.range (j+1+1)).map (fun i=>sumK rs (cabK ss i))=(List.range (j+1)).map (fun i=>sumK rs (cabK ss i))++[sumK rs (cabK ss (j+1))]:=by rw[List.range_succ,List.map_append];rfl
    have hst:cabK ss (j+1)=stopK (cabK ss j) (ss.getD j (0,false)):=rfl;refine ⟨fun hj'=>⟨hj',fun q=>?_,fun q=>?_⟩,fun hj'=>?_⟩
    ·rw[stopK,if_pos q] at hst;rw[←hst];exact ⟨hlook (j+1) hj',hlen,j+1,by omega,hj',w2 hj',hsucc.symm,rfl⟩
    ·rw[stopK,if_neg (by rw[q];simp)] at hst;rw[←hst];exact ⟨hlook (j+1) hj',hlen,j+1,by omega,hj',w2 hj',hsucc.symm,rfl⟩
    ·obtain rfl:j=ss.length:=by omega
     unfold profF;rw[if_pos h];unfold loadsF;have:(List.range (ss.length+1)).map (fun i=>sumK rs (cabK ss i))=(List.range (ss.length+1)).map fun j=>afterF ss rs (j:Nat):=List.map_congr_left fun i hi=>cab_load hr (by rw[List.mem_range] at hi;omega);rw[this]
def entRProf:Ent:=⟨165,.cons Z15 (.cons Z7 .nil),.cons Z17 (.cons Z1 .nil),true,none,fun _=>True,fun x=>((profF x.1 x.2.1).1,(profF x.1 x.2.1).2,())⟩
def csRprf:List Ent:=[entRRightS,entAfter] theorem hcsRprf (f:FuncId):findEnt csRprf f=findEnt [entRRightS,entAfter] f:=rfl
theorem conRProf:Con Tryz.prog entRProf:=by
 refine con_is (C:=csRprf) x165 (by kernel_rfl) (by simp[csRprf,conRRightS,conAfter]) fun x hx hf=>?_;obtain ⟨(ss:List DStop),(rs:List DReq),_⟩:=x;dsimp only[entRProf,x165];simp only[↓hcsRprf,entRRightS,entAfter,go_sem];try simp only[td,reduceCtorEq]
 refine ⟨fun h=>by unfold profF;rw[if_neg (by rw[h];simp)],fun h=>?_⟩;have hr:RightS ss rs:=of_decide_eq_true h;have hl:ss.length≤80:=hr.1.1;refine XW_for 1000 x165_0d [0] Nat (fun j=>[(7,.val Z1 (j:Int)),(6,.own 6)]) (fun j=>[(6,.row 215 Z3 ((List.range j).map fun i=>afterF ss rs (i:Nat)))])
  (fun j=>j≤ss.length+1) (fun j=>ss.length+1-j) 0 ?_ ?_ ?_
 ·dsimp only[x165_0d];simp only[go_sem];try trivial
 ·exact Nat.zero_le _
 ·rintro j hj;dsimp only[x165_0,x165_0d];simp only[↓hcsRprf,entRRightS,entAfter,h,go_sem];try simp only[td,reduceCtorEq]
  have w2:j≤ss.length→IntKind.i64.wrap ((j:Int)+1)=((j+1:Nat):Int):=fun h=>i64_in _ (by omega);have hsucc:(List.range (j+1)).map (fun i=>afterF ss rs (i:Nat))=(List.range j).map (fun i=>afterF ss rs (i:Nat))++[afterF ss rs (j:Nat)]:=by rw[List.range_succ,List.map_append];rfl
  refine ⟨fun hj'=>⟨by rw[List.length_map,List.length_range];omega,j+1,by omega,by omega,w2 (by omega),hsucc.symm⟩,fun hj'=>?_⟩;obtain rfl:j=ss.length+1:=by omega
  unfold profF;rw[if_pos h];rfl
def entIxf:Ent:=⟨141,.cons Z17 (.cons (.fn Z3 .bool) .nil),(.int .i64),false,none,fun _=>True,fun x=>idxF (x.2.1:DLoad→Bool) (x.1:List DLoad)⟩
def csIxf:List Ent:=[] theorem hcsIxf (f:FuncId):findEnt csIxf f=findEnt [] f:=rfl
theorem conIxf:Con Tryz.prog entIxf:=by
 refine con_is (C:=csIxf) x141 (by kernel_rfl) (by simp[csIxf]) fun x hx hf=>?_;obtain ⟨(l:List DLoad),(F:DLoad→Bool),_⟩:=x;have hl:l.length≤9223372036854775807:=hf.1.1;dsimp only[entIxf,x141];simp only[↓hcsIxf,go_sem];try simp only[td,reduceCtorEq]
 refine XW_for 1000 x141_0d [] Nat (fun j=>[(8,.val Z1 (j:Int))]) (fun _=>[]) (fun j=>j≤l.length∧∀i,i<j→F (l.getD i (0,0,0))=false) (fun j=>l.length-j) 0 ?_ ?_ ?_
 ·dsimp only[x141_0d];simp only[go_sem];try rfl
 ·exact ⟨Nat.zero_le _,fun i hi=>by omega⟩
 ·rintro j ⟨hj,hn⟩;dsimp only[x141_0,x141_0d];simp only[↓hcsIxf,go_sem];try simp only[td,reduceCtorEq]
  have w2:j<l.length→IntKind.i64.wrap ((j:Int)+1)=((j+1:Nat):Int):=fun h=>i64_in _ (by omega);refine ⟨fun hj'=>⟨hj',fun q=>(idxF_at hj' hn q).symm,fun q=>⟨j+1,by omega,⟨hj',fun i hi=>?_⟩,w2 hj'⟩⟩,fun hj'=>(idxF_none fun i hi=>hn i (by omega)).symm⟩;by_cases c:i=j
  ·subst c;exact q
  ·exact hn i (by omega)
def entOver:Ent:=⟨142,.cons Z3 (.cons Z29 .nil),.bool,false,none,fun _=>True,fun x=>overB x.1 (carLoad x.2.1)⟩
def csOv:List Ent:=[] theorem hcsOv (f:FuncId):findEnt csOv f=findEnt [] f:=rfl
theorem conOver:Con Tryz.prog entOver:=by
 refine con_is (C:=csOv) x142 (by kernel_rfl) (by simp[csOv]) fun x hx hf=>?_;obtain ⟨⟨(a:Int),(b:Int),(c:Int)⟩,⟨(c1:Int),(c2:Int),(c3:Int),(c4:Int),(c5:Int),(c6:Int),(c7:Int),(c8:Int),(c9:Int)⟩,_⟩:=x;dsimp only[entOver,x142];simp only[↓hcsOv,go_sem];try simp only[td,reduceCtorEq]
 unfold overB carLoad;rw[Bool.or_assoc]
def entFits:Ent:=⟨83,.cons Z19 (.cons Z15 (.cons Z7 .nil)),.cons Z1 (.cons Z1 .nil),true,none,fun _=>True,fun x=>((fitsF (carLoad x.1) x.2.1 x.2.2.1).1,(fitsF (carLoad x.1) x.2.1 x.2.2.1).2,())⟩
def csFts:List Ent:=[entProf,entPlaces,entIxf,entOver] theorem hcsFts (f:FuncId):findEnt csFts f=findEnt [entProf,entPlaces,entIxf,entOver] f:=rfl
theorem conFits:Con Tryz.prog entFits:=by
 refine con_is (C:=csFts) x83 (by kernel_rfl) (by simp[csFts,conProf,conPlaces,conIxf,conOver]) fun x hx hf=>?_;obtain ⟨⟨(c1:Int),(c2:Int),(c3:Int),(c4:Int),(c5:Int),(c6:Int),(c7:Int),(c8:Int),(c9:Int)⟩,(ss:List DStop),(rs:List DReq),_⟩:=x;dsimp only[entFits,x83];simp only[↓hcsFts,entProf,entPlaces,entIxf,entOver,go_sem];try simp only[td,reduceCtorEq]
 refine ⟨fun q=>by rw[fits_bad (c:=carLoad (c1,c2,c3,c4,c5,c6,c7,c8,c9)) q],fun q=>⟨fun z=>by rw[fits_full (c:=carLoad (c1,c2,c3,c4,c5,c6,c7,c8,c9)) q z];rfl,fun z=>by rw[fits_ok (c:=carLoad (c1,c2,c3,c4,c5,c6,c7,c8,c9)) q z]⟩⟩
def entRFits:Ent:=⟨120,.cons Z19 (.cons Z15 (.cons Z7 .nil)),.cons Z1 (.cons Z1 .nil),true,none,fun _=>True,fun x=>((fitsF (carLoad x.1) x.2.1 x.2.2.1).1,(fitsF (carLoad x.1) x.2.1 x.2.2.1).2,())⟩
def csRft:List Ent:=[entRProf,entPlace] theorem hcsRft (f:FuncId):findEnt csRft f=findEnt [entRProf,entPlace] f:=rfl
theorem conRFits:Con Tryz.prog entRFits:=by
 refine con_is (C:=csRft) x120 (by kernel_rfl) (by simp[csRft,conRProf,conPlace]) fun x hx hf=>?_;obtain ⟨⟨(c1:Int),(c2:Int),(c3:Int),(c4:Int),(c5:Int),(c6:Int),(c7:Int),(c8:Int),(c9:Int)⟩,(ss:List DStop),(rs:List DReq),_⟩:=x;dsimp only[entRFits,x120];simp only[↓hcsRft,entRProf,entPlace,go_sem];try simp only[td,reduceCtorEq]
 have hlen:=profF_len (ss:=ss) (rs:=rs);refine ⟨fun q=>by rw[fits_bad (by rcases q with ((q|q)|q)|q<;>simp[placesB,carLoad,q])],fun q=>?_⟩;have hq:(profF ss rs).2=0∧placesB (carLoad (c1,c2,c3,c4,c5,c6,c7,c8,c9))=true:=⟨q.1.1.1,by simp[placesB,carLoad,q.1.1.2,q.1.2,q.2]⟩;refine XW_for 1000 x120_0d [0] Nat (fun j=>[(10,.val Z1 (j:Int))]) (fun _=>[]) (fun j=>j≤(profF ss rs).1.length∧∀i,i<j→overB ((profF ss rs).1.getD i (0,0,0)) (c5,c6,c7)=false) (fun j=>(profF ss rs).1.length-j) 0 ?_ ?_ ?_
 ·dsimp only[x120_0d];simp only[go_sem];try rfl
 ·exact ⟨Nat.zero_le _,fun i hi=>by omega⟩
 ·rintro j ⟨hj,hn⟩;have e1:=fits_full hq;have e2:=fits_ok hq;generalize fitsF (carLoad (c1,c2,c3,c4,c5,c6,c7,c8,c9)) ss rs=R at e1 e2⊢;have eo:overF (carLoad (c1,c2,c3,c4,c5,c6,c7,c8,c9)) (profF ss rs).1=idxF (fun x=>overB x (c5,c6,c7)) (profF ss rs).1:=rfl;rw[eo] at e1 e2;generalize (profF ss rs).1=l at hlen hj hn e1 e2⊢;dsimp only[x120_0,x120_0d];simp only[↓hcsRft,go_sem];try simp only[td,reduceCtorEq]
  have w2:j<l.length→IntKind.i64.wrap ((j:Int)+1)=((j+1:Nat):Int):=fun h=>i64_in _ (by omega);have ho:∀x:DLoad,overB x (c5,c6,c7)=true↔(c5<x.1∨c6<x.2.1)∨c7<x.2.2:=fun x=>by simp[overB,or_assoc]
  refine ⟨fun hj'=>⟨⟨hj',fun q=>⟨q,hj'⟩,fun q=>⟨q,hj'⟩⟩,fun q=>?_,fun q=>⟨j+1,by omega,⟨hj',fun i hi=>?_⟩,w2 hj'⟩⟩,fun hj'=>?_⟩
  ·have:=idxF_at (p:=fun x=>overB x (c5,c6,c7)) hj' hn ((ho _).2 q);rw[this] at e1;rw[e1 (by omega)]
  ·by_cases c:i=j
   ·subst c;rw[Bool.eq_false_iff];intro z;have:=(ho _).1 z;omega
   ·exact hn i (by omega)
  ·have:=idxF_none (p:=fun x=>overB x (c5,c6,c7)) (d:=(0,0,0)) fun i hi=>hn i (by omega);rw[this] at e2;rw[e2 (by omega)]
end T
end Go.Proofs.YtpocfbfmjippnaaGreat
end
