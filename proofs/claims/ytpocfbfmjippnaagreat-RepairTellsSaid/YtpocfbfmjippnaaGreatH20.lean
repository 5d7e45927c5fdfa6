/- Parts of the proof of the law; no condition. -/
import Derived.Test.YtpocfbfmjippnaaGreatH5
set_option linter.all false
section
namespace Go.Proofs.YtpocfbfmjippnaaGreat
open Go.RowKit Go.IntWalk
namespace T
theorem at_next {ss:List DStop} {x:DStop} {j:Nat} (hj:j<ss.length) (hn:x∉ss.take j) (h:ss.getD j dStop≠x):x∉ss.take (j+1):=by
 rw[take_next hj,List.mem_append,List.mem_singleton];exact fun q=>q.elim hn fun e=>h e.symm
theorem at_end {ss:List DStop} {x:DStop} {j:Nat} (hj:ss.length≤j) (hn:x∉ss.take j):x∉ss:=by rwa [List.take_of_length_le hj] at hn
def entPlc:Ent:=⟨195,.cons Z1 .nil,.bool,false,none,fun _=>True,fun x=>place1 x.1⟩
def csPlc:List Ent:=[] theorem hcsPlc (f:FuncId):findEnt csPlc f=findEnt [] f:=rfl
theorem conPlc:Con Tryz.prog entPlc:=by
 refine con_is (C:=csPlc) x195 (by kernel_rfl) (by simp[csPlc]) fun x hx hf=>?_;obtain ⟨(n:Int),_⟩:=x;dsimp only[entPlc,x195];simp only[↓hcsPlc,go_sem];try simp only[td,reduceCtorEq]
 simp[place1]
def entPlace:Ent:=⟨166,.cons Z1 .nil,.bool,false,none,fun _=>True,fun x=>place1 x.1⟩
def csPl2:List Ent:=[] theorem hcsPl2 (f:FuncId):findEnt csPl2 f=findEnt [] f:=rfl
theorem conPlace:Con Tryz.prog entPlace:=by
 refine con_is (C:=csPl2) x166 (by kernel_rfl) (by simp[csPl2]) fun x hx hf=>?_;obtain ⟨(n:Int),_⟩:=x;dsimp only[entPlace,x166];simp only[↓hcsPl2,go_sem];try simp only[td,reduceCtorEq]
 simp[place1]
def entPlaces:Ent:=⟨140,.cons Z3 .nil,.bool,false,none,fun _=>True,fun x=>placesB x.1⟩
def csPls:List Ent:=[entPlc] theorem hcsPls (f:FuncId):findEnt csPls f=findEnt [entPlc] f:=rfl
theorem conPlaces:Con Tryz.prog entPlaces:=by
 refine con_is (C:=csPls) x140 (by kernel_rfl) (by simp[csPls,conPlc]) fun x hx hf=>?_;obtain ⟨⟨(a:Int),(b:Int),(c:Int)⟩,_⟩:=x;dsimp only[entPlaces,x140];simp only[↓hcsPls,entPlc,go_sem];try simp only[td,reduceCtorEq]
 simp[placesB,Bool.and_assoc]
def entOf:Ent:=⟨190,.cons Z6 .nil,Z3,false,none,fun _=>True,fun x=>reqLoad x.1⟩
def csOf:List Ent:=[] theorem hcsOf (f:FuncId):findEnt csOf f=findEnt [] f:=rfl
theorem conOf:Con Tryz.prog entOf:=by
 refine con_is (C:=csOf) x190 (by kernel_rfl) (by simp[csOf]) fun x hx hf=>?_;obtain ⟨⟨(a:Int),(b:Int),(c:Int),(d:Int),(e:Int),(f:Int),(g:Int),(h:Int),(i:Int),(j:Int)⟩,_⟩:=x;dsimp only[entOf,x190];simp only[↓hcsOf,go_sem];try simp only[td,reduceCtorEq]
 rfl
def entAt17:Ent:=⟨199,.cons Z15 (.cons Z1 (.cons .bool .nil)),(.int .i64),false,none,fun _=>True,fun x=>atF (x.2.1,x.2.2.1) x.1⟩
def csAt:List Ent:=[] theorem hcsAt (f:FuncId):findEnt csAt f=findEnt [] f:=rfl
theorem conAt17:Con Tryz.prog entAt17:=by
 refine con_is (C:=csAt) x199 (by kernel_rfl) (by simp[csAt]) fun x hx hf=>?_;obtain ⟨(ss:List DStop),(k:Int),(p:Bool),_⟩:=x;have hl:ss.length≤9223372036854775807:=hf.1.1;dsimp only[entAt17,x199];simp only[↓hcsAt,go_sem];try simp only[td,reduceCtorEq]
 refine XW_for 1000 x199_0d [] Nat (fun j=>[(7,.val Z1 (j:Int))]) (fun _=>[]) (fun j=>j≤ss.length∧(k,p)∉ss.take j) (fun j=>ss.length-j) 0 ?_ ?_ ?_
 ·dsimp only[x199_0d];simp only[go_sem];try rfl
 ·exact ⟨Nat.zero_le _,by simp⟩
 ·rintro j ⟨hj,hn⟩;dsimp only[x199_0,x199_0d];simp only[↓hcsAt,go_sem];try simp only[td,reduceCtorEq]
  have w2:j<ss.length→IntKind.i64.wrap ((j:Int)+1)=((j+1:Nat):Int):=fun h=>i64_in _ (by omega);refine ⟨fun hj'=>⟨⟨hj',fun e=>⟨e,hj'⟩⟩,fun e=>(atF_at (x:=(k,p)) hj' (Prod.ext e.1 e.2) hn).symm,fun e=>⟨j+1,by omega,⟨hj',at_next hj' hn fun q=>e (congrArg Prod.fst q) (congrArg Prod.snd q)⟩,w2 hj'⟩⟩,fun hj'=>(atF_none (at_end (by omega) hn)).symm⟩
def entIdxS:Ent:=⟨224,.cons Z15 (.cons Z2 .nil),(.int .i64),false,none,fun _=>True,fun x=>atF x.2.1 x.1⟩
def csIxs:List Ent:=[] theorem hcsIxs (f:FuncId):findEnt csIxs f=findEnt [] f:=rfl
theorem conIdxS:Con Tryz.prog entIdxS:=by
 refine con_is (C:=csIxs) x224 (by kernel_rfl) (by simp[csIxs]) fun x hx hf=>?_;obtain ⟨(ss:List DStop),⟨(k:Int),(p:Bool)⟩,_⟩:=x;have hl:ss.length≤9223372036854775807:=hf.1.1;dsimp only[entIdxS,x224];simp only[↓hcsIxs,go_sem];try simp only[td,reduceCtorEq]
 refine XW_for 1000 x224_0d [0] Nat (fun j=>[(8,.val Z1 (j:Int))]) (fun _=>[]) (fun j=>j≤ss.length∧(k,p)∉ss.take j) (fun j=>ss.length-j) 0 ?_ ?_ ?_
 ·dsimp only[x224_0d];simp only[go_sem];try rfl
 ·exact ⟨Nat.zero_le _,by simp⟩
 ·rintro j ⟨hj,hn⟩;dsimp only[x224_0,x224_0d];simp only[↓hcsIxs,go_sem];try simp only[td,reduceCtorEq]
  have w2:j<ss.length→IntKind.i64.wrap ((j:Int)+1)=((j+1:Nat):Int):=fun h=>i64_in _ (by omega);refine ⟨fun hj'=>⟨hj',fun e=>(atF_at (x:=(k,p)) hj' (Prod.ext e.1.symm e.2.symm) hn).symm,fun e=>⟨j+1,by omega,⟨hj',at_next hj' hn fun q=>e (congrArg Prod.fst q).symm (congrArg Prod.snd q).symm⟩,w2 hj'⟩⟩,fun hj'=>(atF_none (at_end (by omega) hn)).symm⟩
theorem mget_keys (ks:List Int) (k:Int):mget false (ks.map fun k=>(k,true)) k=decide (k∈ks):=by
 induction ks with
 |nil=>rfl
 |cons p r ih=>
  rw[List.map_cons,mget];dsimp only;by_cases c:p=k
  ·rw[if_pos c];exact (decide_eq_true (by simp[c])).symm
  ·rw[if_neg c,ih];exact decide_eq_decide.2 (by simp[Ne.symm c])
theorem mset_keys (ks:List Int) (k:Int):mset (ks.map fun k=>(k,true)) k true=(kset ks k).map fun k=>(k,true):=by
 induction ks with
 |nil=>rfl
 |cons p r ih=>
  rw[List.map_cons,mset,kset];dsimp only;by_cases c:p=k
  ·rw[if_pos c,if_pos c];rfl
  ·rw[if_neg c,if_neg c,ih];rfl
theorem mdel_keys (ks:List Int) (k:Int):mdel (ks.map fun k=>(k,true)) k=(kdel ks k).map fun k=>(k,true):=by
 induction ks with
 |nil=>rfl
 |cons p r ih=>
  rw[List.map_cons,mdel,kdel];dsimp only;by_cases c:p=k
  ·rw[if_pos c,if_pos c]
  ·rw[if_neg c,if_neg c,ih];rfl
theorem drop_next {ss:List DStop} {j:Nat} (h:j<ss.length):ss.drop j=ss.getD j dStop::ss.drop (j+1):=by rw[getD_get h];exact List.drop_eq_getElem_cons h
def entCtS:Ent:=⟨191,.cons Z15 (.cons Z2 .nil),.bool,false,none,fun _=>True,fun x=>decide (x.2.1∈(x.1:List DStop))⟩
def csCts:List Ent:=[entIdxS] theorem hcsCts (f:FuncId):findEnt csCts f=findEnt [entIdxS] f:=rfl
theorem conCtS:Con Tryz.prog entCtS:=by
 refine con_is (C:=csCts) x191 (by kernel_rfl) (by simp[csCts,conIdxS]) fun x hx hf=>?_;obtain ⟨(ss:List DStop),⟨(k:Int),(p:Bool)⟩,_⟩:=x;dsimp only[entCtS,x191];simp only[↓hcsCts,entIdxS,go_sem];try simp only[td,reduceCtorEq]
 exact decide_eq_decide.2 at_mem
def entIn:Ent:=⟨201,.cons Z15 (.cons Z1 (.cons Z1 .nil)),.bool,false,none,fun _=>True,fun x=>inB x.1 x.2.1 x.2.2.1⟩
def csIn:List Ent:=[entAt17] theorem hcsIn (f:FuncId):findEnt csIn f=findEnt [entAt17] f:=rfl
theorem conIn:Con Tryz.prog entIn:=by
 refine con_is (C:=csIn) x201 (by kernel_rfl) (by simp[csIn,conAt17]) fun x hx hf=>?_;obtain ⟨(ss:List DStop),(k:Int),(j:Int),_⟩:=x;dsimp only[entIn,x201];simp only[↓hcsIn,entAt17,go_sem];try simp only[td,reduceCtorEq]
 rfl
def entRRightS:Ent:=⟨164,.cons Z15 (.cons Z7 .nil),.bool,false,none,fun _=>True,fun x=>rightS x.1 x.2.1⟩
def csRrs:List Ent:=[entAt17,entPlace] theorem hcsRrs (f:FuncId):findEnt csRrs f=findEnt [entAt17,entPlace] f:=rfl
theorem conRRightS:Con Tryz.prog entRRightS:=by
 refine con_is (C:=csRrs) x164 (by kernel_rfl) (by simp[csRrs,conAt17,conPlace]) fun x hx hf=>?_;obtain ⟨(ss:List DStop),(rs:List DReq),_⟩:=x;have hl:ss.length≤9223372036854775807:=hf.1.1;dsimp only[entRRightS,x164];simp only[↓hcsRrs,entAt17,entPlace,go_sem];try simp only[td,reduceCtorEq]
 refine ⟨fun h=>?_,fun h=>?_⟩
 ·refine (decide_eq_false fun q=>?_).symm;have:=q.1;omega
 refine XW_for 1000 x164_0d [] Nat (fun j=>[(5,.val Z1 (j:Int))]) (fun _=>[]) (fun j=>j≤ss.length∧∀i,i<j→OkRef ss rs i) (fun j=>ss.length-j) 0 ?_ ?_ ?_
 ·dsimp only[x164_0d];simp only[go_sem];try rfl
 ·exact ⟨Nat.zero_le _,fun i hi=>by omega⟩
 ·rintro j ⟨hj,hok⟩;dsimp only[x164_0,x164_0d];simp only[↓hcsRrs,entAt17,entPlace,go_sem];try simp only[td,reduceCtorEq]
  have w2:j<ss.length→IntKind.i64.wrap ((j:Int)+1)=((j+1:Nat):Int):=fun h=>i64_in _ (by omega);have no:j<ss.length→¬OkRef ss rs j→false=rightS ss rs:=fun hj' q=>(decide_eq_false fun z=>q ((right_ref.1 z).2 j hj')).symm;have yes:j<ss.length→OkRef ss rs j→∀i,i<j+1→OkRef ss rs i:=fun hj' q i hi=>by
   by_cases c:i=j
   ·rw[c];exact q
   ·exact hok i (by omega)
  have hR:OkRef ss rs j↔(0≤(ss.getD j dStop).1∧(ss.getD j dStop).1<rs.length)∧atF (ss.getD j dStop) ss=j∧placesB (reqLoad (rs.getD (ss.getD j dStop).1.toNat dReq))=true∧((ss.getD j dStop).2=true→(j:Int)<atF ((ss.getD j dStop).1,false) ss):=Iff.rfl;have hp:placesB (reqLoad (rs.getD (ss.getD j dStop).1.toNat dReq))=(place1 (reqLoad (rs.getD (ss.getD j dStop).1.toNat dReq)).1&&(place1 (reqLoad (rs.getD (ss.getD j dStop).1.toNat dReq)).2.1&&place1 (reqLoad (rs.getD (ss.getD j dStop).1.toNat dReq)).2.2)):=rfl;rw[hp] at hR;unfold reqLoad at hR;dsimp only at hR;generalize place1 (rs.getD (Int.toNat (ss.getD j (0,false)).fst) (0,0,0,0,0,0,0,0,0,0)).snd.snd.snd.snd.snd.snd.snd.fst=p1 at hR⊢;generalize place1 (rs.getD (Int.toNat (ss.getD j (0,false)).fst) (0,0,0,0,0,0,0,0,0,0)).snd.snd.snd.snd.snd.snd.snd.snd.fst=p2 at hR⊢;generalize place1 (rs.getD (Int.toNat (ss.getD j (0,false)).fst) (0,0,0,0,0,0,0,0,0,0)).snd.snd.snd.snd.snd.snd.snd.snd.snd=p3 at hR⊢;have he:((ss.getD j (0,false)).1,(ss.getD j (0,false)).2)=ss.getD j dStop:=rfl;rw[he];have hpp:(p1&&(p2&&p3))=true↔((p1=true∧p2=true)∧p3=true):=by simp[and_assoc]
  have hpn:((p1=false∨p2=false)∨p3=false)→¬((p1=true∧p2=true)∧p3=true):=by rintro ((q|q)|q)<;>simp[q]
  rw[hpp] at hR;refine ⟨fun hj'=>⟨hj',fun q=>⟨q,hj'⟩,fun q=>no hj' fun z=>?_,fun q=>⟨q.1,⟨fun z=>⟨z,hj'⟩,fun z=>⟨z,fun y=>⟨z,y⟩⟩⟩,fun z=>no hj' fun y=>?_,fun z=>⟨j+1,by omega,⟨hj',yes hj' (hR.2 ⟨q.1,q.2,z.1,z.2⟩)⟩,w2 hj'⟩⟩⟩,fun hj'=>?_⟩
  ·have:=hR.1 z;rcases q with q|q
   ·have:=this.1;dsimp only[dStop] at this;omega
   ·exact q this.2.1
  ·have y:=hR.1 y;rcases z with z|z
   ·exact hpn z y.2.2.1
   ·have:=y.2.2.2 z.1;have:=z.2;dsimp only[dStop] at*;omega
  ·exact (decide_eq_true (right_ref.2 ⟨by omega,fun i hi=>hok i (by omega)⟩)).symm
def entRightS:Ent:=⟨138,.cons Z15 (.cons Z7 .nil),.bool,false,none,fun _=>True,fun x=>rightS x.1 x.2.1⟩
def csRs:List Ent:=[entOf,entPlaces,entCtS] theorem hcsRs (f:FuncId):findEnt csRs f=findEnt [entOf,entPlaces,entCtS] f:=rfl
theorem conRightS:Con Tryz.prog entRightS:=by
 refine con_is (C:=csRs) x138 (by kernel_rfl) (by simp[csRs,conOf,conPlaces,conCtS]) fun x hx hf=>?_;obtain ⟨(ss:List DStop),(rs:List DReq),_⟩:=x;have hl:ss.length≤9223372036854775807:=hf.1.1;dsimp only[entRightS,x138];simp only[↓hcsRs,entOf,entPlaces,entCtS,go_sem];try simp only[td,reduceCtorEq]
 refine ⟨fun h=>?_,fun h=>?_⟩
 ·refine (decide_eq_false fun q=>?_).symm;have:=q.1;omega
 refine XW_for 1000 x138_0d [] (Nat×List Int) (fun s=>[(6,.val Z1 ((s.1:Int)-1))]) (fun s=>[(9,.mp .i64 .bool (s.2.map fun k=>(k,true)))])
   (fun s=>s.1≤ss.length∧(∀k,k∈s.2↔(k,false)∈ss.drop s.1)∧∀i,s.1≤i→i<ss.length→OkAt ss rs i) (fun s=>s.1) (ss.length,[]) ?_ ?_ ?_
 ·dsimp only[x138_0d];simp only[go_sem];exact i64_in _ (by omega)
 ·exact ⟨Nat.le_refl _,fun k=>by simp,fun i (hi:ss.length≤i) hl=>by omega⟩
 ·rintro ⟨j,ks⟩ ⟨hj,hks,hok⟩;dsimp only[x138_0,x138_0d];simp only[↓hcsRs,entOf,entPlaces,entCtS,go_sem];try simp only[td,reduceCtorEq]
  dsimp only at hj hks hok;by_cases hj0:j=0
  ·subst hj0;refine ⟨fun q=>by omega,fun _=>(decide_eq_true ⟨by omega,fun i hi=>hok i (by omega) hi⟩).symm⟩
  obtain ⟨j,rfl⟩:∃m,j=m+1:=⟨j-1,by omega⟩;have hj':j<ss.length:=by omega
  have e1:((j+1:Nat):Int)-1=(j:Int):=by omega
  have w2:IntKind.i64.wrap ((j:Int)-1)=(j:Int)-1:=i64_in _ (by omega);have hd:=drop_next hj';have no:¬OkAt ss rs j→false=rightS ss rs:=fun q=>(decide_eq_false fun z=>q (z.2 j hj')).symm;have yes:OkAt ss rs j→∀i,j≤i→i<ss.length→OkAt ss rs i:=fun q i hi hl=>by
   by_cases c:i=j
   ·rw[c];exact q
   ·exact hok i (by omega) hl
  have hR:OkAt ss rs j↔(0≤(ss.getD j dStop).1∧(ss.getD j dStop).1<rs.length)∧placesB (reqLoad (rs.getD (ss.getD j dStop).1.toNat dReq))=true∧ss.getD j dStop∉ss.take j∧((ss.getD j dStop).2=true→((ss.getD j dStop).1,false)∈ss.drop (j+1)):=Iff.rfl;simp only[e1,w2,Int.toNat_natCast,mget_keys,mset_keys];dsimp only[dStop] at hR hd;have he:((ss.getD j (0,false)).1,(ss.getD j (0,false)).2)=ss.getD j (0,false):=rfl;rw[he];generalize ss.getD j (0,false)=s at hR hd he⊢;obtain ⟨k,p⟩:=s;dsimp only at hR hd⊢;generalize placesB (reqLoad (rs.getD k.toNat dReq))=pb at hR⊢;refine ⟨fun _=>⟨by omega,⟨fun q=>⟨q,by omega⟩,fun q=>⟨q,fun z=>⟨q,z⟩⟩⟩,fun q=>no fun z=>?_,fun q=>⟨fun z=>?_,fun z=>?_⟩⟩,fun q=>by omega⟩
  ·have z:=hR.1 z;rcases q with ((q|q)|q)|q
   ·omega
   ·rw[q] at z;cases z.2.1
   ·exact z.2.2.1 q
   ·have:=(hks k).2 (z.2.2.2 q.1);have q2:=q.2;simp only[decide_eq_false_iff_not] at q2;exact q2 this
  ·refine ⟨(j,kset ks k),Nat.lt_succ_self _,⟨by dsimp only;omega,fun x=>?_,yes (hR.2 ⟨q.1.1.1,q.1.1.2,q.1.2,fun y=>by rw[z] at y;cases y⟩)⟩,rfl,rfl⟩;dsimp only;rw[mem_kset,hks,hd,List.mem_cons,z,Prod.mk.injEq,or_comm];simp
  ·refine ⟨(j,ks),Nat.lt_succ_self _,⟨by dsimp only;omega,fun x=>?_,yes (hR.2 ⟨q.1.1.1,q.1.1.2,q.1.2,fun y=>?_⟩)⟩,rfl,rfl⟩
   ·dsimp only;rw[hks,hd,List.mem_cons,z,Prod.mk.injEq];simp
   ·have:=q.2 z;rw[decide_eq_true_iff] at this;exact (hks k).1 this
end T
end Go.Proofs.YtpocfbfmjippnaaGreat
end
