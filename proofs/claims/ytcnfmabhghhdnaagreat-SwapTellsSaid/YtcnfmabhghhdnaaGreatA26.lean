/- Parts of the proof of the law; no condition. -/
import Derived.Test.YtcnfmabhghhdnaaGreatA19
import Derived.Test.YtcnfmabhghhdnaaGreatA23
import Derived.Test.YtcnfmabhghhdnaaGreatA24
import Derived.Test.YtcnfmabhghhdnaaGreatA27
set_option linter.all false
section
namespace Go.Proofs.YtcnfmabhghhdnaaGreat
open Go.RowKit Go.IntWalk
namespace T
def entRProf:Ent:=⟨154,.cons Z12 (.cons Z7 .nil),.cons Z9 (.cons Z1 .nil),true,none,fun _=>True,fun x=>((profF x.1 x.2.1).1,(profF x.1 x.2.1).2,())⟩
def csRprf:List Ent:=[entRRightS,entAfter] theorem hcsRprf (f:FuncId):findEnt csRprf f=findEnt [entRRightS,entAfter] f:=rfl
theorem conRProf:Con Tryz.prog entRProf:=by
 refine con_is (C:=csRprf) x154 (by kernel_rfl) (by simp[csRprf,conRRightS,conAfter]) fun x hx hf=>?_;obtain ⟨(ss:List DStop),(rs:List DReq),_⟩:=x;dsimp only[entRProf,x154,Z5,Za,Zb,Zg];simp only[↓hcsRprf,entRRightS,entAfter,go_sem];try simp only[td,reduceCtorEq]
 refine ⟨fun h=>by unfold profF;rw[if_neg (by rw[h];simp)],fun h=>?_⟩;have hr:RightS ss rs:=of_decide_eq_true h;have hl:ss.length≤80:=hr.1.1;refine XW_for 1000 x154_0d [0] Nat (fun j=>[(7,.val Z1 (j:Int)),(6,.own 6)]) (fun j=>[(6,.row 199 Z5 ((List.range j).map fun i=>afterF ss rs (i:Nat)))])
  (fun j=>j≤ss.length+1) (fun j=>ss.length+1-j) 0 ?_ ?_ ?_
 ·dsimp only[x154_0d];simp only[go_sem];try trivial
 ·exact Nat.zero_le _
 ·rintro j hj;dsimp only[x154_0,x154_0d,Z5,Za,Zb,Zg];simp only[↓hcsRprf,entRRightS,entAfter,h,go_sem];try simp only[td,reduceCtorEq]
  have w2:j≤ss.length→IntKind.i64.wrap ((j:Int)+1)=((j+1:Nat):Int):=fun h=>i64_in _ (by omega);have hsucc:(List.range (j+1)).map (fun i=>afterF ss rs (i:Nat))=(List.range j).map (fun i=>afterF ss rs (i:Nat))++[afterF ss rs (j:Nat)]:=by rw[List.range_succ,List.map_append];rfl
  refine ⟨fun hj'=>⟨by rw[List.length_map,List.length_range];omega,j+1,by omega,by omega,w2 (by omega),hsucc.symm⟩,fun hj'=>?_⟩;obtain rfl:j=ss.length+1:=by omega
  unfold profF;rw[if_pos h];rfl
def entIxf:Ent:=⟨120,.cons Z9 (.cons (.fn Z5 .bool) .nil),(.int .i64),false,none,fun _=>True,fun x=>idxF (x.2.1:DLoad→Bool) (x.1:List DLoad)⟩
def csIxf:List Ent:=[] theorem hcsIxf (f:FuncId):findEnt csIxf f=findEnt [] f:=rfl
theorem conIxf:Con Tryz.prog entIxf:=by
 refine con_is (C:=csIxf) x120 (by kernel_rfl) (by simp[csIxf]) fun x hx hf=>?_;obtain ⟨(l:List DLoad),(F:DLoad→Bool),_⟩:=x;have hl:l.length≤9223372036854775807:=hf.1.1;dsimp only[entIxf,x120,Zb,Zg];simp only[↓hcsIxf,go_sem];try simp only[td,reduceCtorEq]
 refine XW_for 1000 x120_0d [] Nat (fun j=>[(8,.val Z1 (j:Int))]) (fun _=>[]) (fun j=>j≤l.length∧∀i,i<j→F (l.getD i (0,0,0))=false) (fun j=>l.length-j) 0 ?_ ?_ ?_
 ·dsimp only[x120_0d];simp only[go_sem];try rfl
 ·exact ⟨Nat.zero_le _,fun i hi=>by omega⟩
 ·rintro j ⟨hj,hn⟩;dsimp only[x120_0,x120_0d,Z5,Za,Zb,Zg];simp only[↓hcsIxf,go_sem];try simp only[td,reduceCtorEq]
  have w2:j<l.length→IntKind.i64.wrap ((j:Int)+1)=((j+1:Nat):Int):=fun h=>i64_in _ (by omega);refine ⟨fun hj'=>⟨hj',fun q=>(idxF_at hj' hn q).symm,fun q=>⟨j+1,by omega,⟨hj',fun i hi=>?_⟩,w2 hj'⟩⟩,fun hj'=>(idxF_none fun i hi=>hn i (by omega)).symm⟩;by_cases c:i=j
  ·subst c;exact q
  ·exact hn i (by omega)
def entOver:Ent:=⟨121,.cons Z5 (.cons Z26 .nil),.bool,false,none,fun _=>True,fun x=>overB x.1 (carLoad x.2.1)⟩
def csOv:List Ent:=[] theorem hcsOv (f:FuncId):findEnt csOv f=findEnt [] f:=rfl
theorem conOver:Con Tryz.prog entOver:=by
 refine con_is (C:=csOv) x121 (by kernel_rfl) (by simp[csOv]) fun x hx hf=>?_;obtain ⟨⟨(a:Int),(b:Int),(c:Int)⟩,⟨(c1:Int),(c2:Int),(c3:Int),(c4:Int),(c5:Int),(c6:Int),(c7:Int),(c8:Int),(c9:Int)⟩,_⟩:=x;dsimp only[entOver,x121,Z1,Za,Zb,Zc,Ze,Zg];simp only[↓hcsOv,go_sem];try simp only[td,reduceCtorEq]
 unfold overB carLoad;rw[Bool.or_assoc]
def entFits:Ent:=⟨65,.cons Z19 (.cons Z12 (.cons Z7 .nil)),.cons Z1 (.cons Z1 .nil),true,none,fun _=>True,fun x=>((fitsF (carLoad x.1) x.2.1 x.2.2.1).1,(fitsF (carLoad x.1) x.2.1 x.2.2.1).2,())⟩
def csFts:List Ent:=[entProf,entPlaces,entIxf,entOver] theorem hcsFts (f:FuncId):findEnt csFts f=findEnt [entProf,entPlaces,entIxf,entOver] f:=rfl
theorem conFits:Con Tryz.prog entFits:=by
 refine con_is (C:=csFts) x65 (by kernel_rfl) (by simp[csFts,conProf,conPlaces,conIxf,conOver]) fun x hx hf=>?_;obtain ⟨⟨(c1:Int),(c2:Int),(c3:Int),(c4:Int),(c5:Int),(c6:Int),(c7:Int),(c8:Int),(c9:Int)⟩,(ss:List DStop),(rs:List DReq),_⟩:=x;dsimp only[entFits,x65,Z1,Z5,Za,Zb,Zc,Ze,Zg];simp only[↓hcsFts,entProf,entPlaces,entIxf,entOver,go_sem];try simp only[td,reduceCtorEq]
 refine ⟨fun q=>by rw[fits_bad (c:=carLoad (c1,c2,c3,c4,c5,c6,c7,c8,c9)) q],fun q=>⟨fun z=>by rw[fits_full (c:=carLoad (c1,c2,c3,c4,c5,c6,c7,c8,c9)) q z];rfl,fun z=>by rw[fits_ok (c:=carLoad (c1,c2,c3,c4,c5,c6,c7,c8,c9)) q z]⟩⟩
def entRFits:Ent:=⟨108,.cons Z19 (.cons Z12 (.cons Z7 .nil)),.cons Z1 (.cons Z1 .nil),true,none,fun _=>True,fun x=>((fitsF (carLoad x.1) x.2.1 x.2.2.1).1,(fitsF (carLoad x.1) x.2.1 x.2.2.1).2,())⟩
def csRft:List Ent:=[entRProf,entPlace] theorem hcsRft (f:FuncId):findEnt csRft f=findEnt [entRProf,entPlace] f:=rfl
theorem conRFits:Con Tryz.prog entRFits:=by
 refine con_is (C:=csRft) x108 (by kernel_rfl) (by simp[csRft,conRProf,conPlace]) fun x hx hf=>?_;obtain ⟨⟨(c1:Int),(c2:Int),(c3:Int),(c4:Int),(c5:Int),(c6:Int),(c7:Int),(c8:Int),(c9:Int)⟩,(ss:List DStop),(rs:List DReq),_⟩:=x;dsimp only[entRFits,x108,Z1,Za,Zb,Zc,Ze,Zg];simp only[↓hcsRft,entRProf,entPlace,go_sem];try simp only[td,reduceCtorEq]
 have hlen:=profF_len (ss:=ss) (rs:=rs);refine ⟨fun q=>by rw[fits_bad (by rcases q with ((q|q)|q)|q<;>simp[placesB,carLoad,q])],fun q=>?_⟩;have hq:(profF ss rs).2=0∧placesB (carLoad (c1,c2,c3,c4,c5,c6,c7,c8,c9))=true:=⟨q.1.1.1,by simp[placesB,carLoad,q.1.1.2,q.1.2,q.2]⟩;refine XW_for 1000 x108_0d [0] Nat (fun j=>[(10,.val Z1 (j:Int))]) (fun _=>[]) (fun j=>j≤(profF ss rs).1.length∧∀i,i<j→overB ((profF ss rs).1.getD i (0,0,0)) (c5,c6,c7)=false) (fun j=>(profF ss rs).1.length-j) 0 ?_ ?_ ?_
 ·dsimp only[x108_0d];simp only[go_sem];try rfl
 ·exact ⟨Nat.zero_le _,fun i hi=>by omega⟩
 ·rintro j ⟨hj,hn⟩;have e1:=fits_full hq;have e2:=fits_ok hq;generalize fitsF (carLoad (c1,c2,c3,c4,c5,c6,c7,c8,c9)) ss rs=R at e1 e2⊢;have eo:overF (carLoad (c1,c2,c3,c4,c5,c6,c7,c8,c9)) (profF ss rs).1=idxF (fun x=>overB x (c5,c6,c7)) (profF ss rs).1:=rfl;rw[eo] at e1 e2;generalize (profF ss rs).1=l at hlen hj hn e1 e2⊢;dsimp only[x108_0,x108_0d,Z1,Z5,Za,Zb,Zc,Zf,Zg,Zh];simp only[↓hcsRft,go_sem];try simp only[td,reduceCtorEq]
  have w2:j<l.length→IntKind.i64.wrap ((j:Int)+1)=((j+1:Nat):Int):=fun h=>i64_in _ (by omega);have ho:∀x:DLoad,overB x (c5,c6,c7)=true↔(c5<x.1∨c6<x.2.1)∨c7<x.2.2:=fun x=>by simp[overB,or_assoc]
  refine ⟨fun hj'=>⟨⟨hj',fun q=>⟨q,hj'⟩,fun q=>⟨q,hj'⟩⟩,fun q=>?_,fun q=>⟨j+1,by omega,⟨hj',fun i hi=>?_⟩,w2 hj'⟩⟩,fun hj'=>?_⟩
  ·have:=idxF_at (p:=fun x=>overB x (c5,c6,c7)) hj' hn ((ho _).2 q);rw[this] at e1;rw[e1 (by omega)]
  ·by_cases c:i=j
   ·subst c;rw[Bool.eq_false_iff];intro z;have:=(ho _).1 z;omega
   ·exact hn i (by omega)
  ·have:=idxF_none (p:=fun x=>overB x (c5,c6,c7)) (d:=(0,0,0)) fun i hi=>hn i (by omega);rw[this] at e2;rw[e2 (by omega)]
def begF (w:DWorld) (c:Int) (ss:List DStop):DChain×Int:=
 if asksF w c ss=false then (noChain,1) else if (fitsF (carLoad (carAt w c)) ss w.2.2.2.1).2≠0 then (noChain,27) else if togF w.2.2.2.2.1 ss w.2.2.2.1=false then (noChain,30) else chainF w c ss
def entBeg:Ent:=⟨37,.cons Z24 (.cons Z1 (.cons Z12 .nil)),.cons Z11 (.cons Z1 .nil),true,none,fun x=>List.length (α:=DStop) x.2.2.1≤24,fun x=>((begF x.1 x.2.1 x.2.2.1).1,(begF x.1 x.2.1 x.2.2.1).2,())⟩
def csBeg:List Ent:=[entAsk,entFits,entTog,entChn] theorem hcsBeg (f:FuncId):findEnt csBeg f=findEnt [entAsk,entFits,entTog,entChn] f:=rfl
theorem conBeg:Con Tryz.prog entBeg:=by
 refine con_is (C:=csBeg) x37 (by kernel_rfl) (by simp[csBeg,conAsk,conFits,conTog,conChn]) fun x hx hf=>?_;obtain ⟨⟨(N:Int),(A:List DArc),(C:List DCar),(Q:List DReq),(P:List DPair),(S1:Int),(S2:Int),(S3:Int)⟩,(c:Int),(ss:List DStop),_⟩:=x;replace hx:ss.length≤24:=hx;cases ha:asksF (N,A,C,Q,P,S1,S2,S3) c ss with
 |false=>
  have hz:begF (N,A,C,Q,P,S1,S2,S3) c ss=(([],[],[]),1):=by unfold begF;rw[if_pos ha];rfl
  dsimp only[entBeg,x37,Z11,Z19,Z20,Z23,Z24,Z7,Za,Zb,Zc,Zd,Zf,Zg,Zi];simp only[↓hcsBeg,entAsk,entFits,entTog,entChn,undef,ha,hz,go_sem];try simp only[ha,hz,td,reduceCtorEq]
 |true=>
  obtain ⟨hw,hc,hss⟩:=asks_iff.1 ha;dsimp only at hc hss;obtain ⟨c,rfl⟩:∃z:Nat,c=z:=⟨c.toNat,by omega⟩;have hcl:c<C.length:=by omega
  have hca:carAt (N,A,C,Q,P,S1,S2,S3) (c:Int)=C.getD c (0,0,0,0,0,0,0,0,0):=rfl;have hz:begF (N,A,C,Q,P,S1,S2,S3) c ss=if (fitsF (carLoad (C.getD c (0,0,0,0,0,0,0,0,0))) ss Q).2≠0 then (noChain,27) else if togF P ss Q=false then (noChain,30) else chainF (N,A,C,Q,P,S1,S2,S3) c ss:=by
   unfold begF;rw[if_neg (by rw[ha];simp),hca]
  dsimp only[entBeg,x37,Z11,Z19,Z20,Z23,Z24,Z7,Za,Zb,Zc,Zd,Zf,Zg,Zi];simp only[↓hcsBeg,entAsk,entFits,entTog,entChn,undef,ha,hcl,hx,go_sem];try simp only[ha,hcl,hx,td,reduceCtorEq]
  refine ⟨fun h=>?_,fun h=>⟨fun h2=>?_,fun h2=>?_⟩⟩
  ·rw[hz,if_pos h];rfl
  ·rw[hz,if_neg (fun q=>q h),if_pos h2];rfl
  ·rw[hz,if_neg (fun q=>q h),if_neg (by rw[h2];simp)]
def entTimeR:Ent:=⟨213,.cons Z1 .nil,.bool,false,none,fun _=>True,fun x=>timeB x.1⟩
def csTq:List Ent:=[] theorem hcsTq (f:FuncId):findEnt csTq f=findEnt [] f:=rfl
theorem conTimeR:Con Tryz.prog entTimeR:=by
 refine con_is (C:=csTq) x213 (by kernel_rfl) (by simp[csTq]) fun x hx hf=>?_;obtain ⟨(t:Int),_⟩:=x;dsimp only[entTimeR,x213,Za,Zb,Zg];simp only[↓hcsTq,go_sem];simp only[td,reduceCtorEq];unfold timeB;rw[Bool.eq_iff_iff,decide_eq_true_iff];simp[isTime]
def entNone:Ent:=⟨214,.cons Z1 .nil,Z3,false,some 232,fun x=>0≤x.1∧x.1≤2000,fun x=>List.replicate x.1.toNat ((-1:Int),(-1:Int))⟩
def csNo:List Ent:=[] theorem hcsNo (f:FuncId):findEnt csNo f=findEnt [] f:=rfl
theorem conNone:Con Tryz.prog entNone:=by
 refine con_is (C:=csNo) x214 (by kernel_rfl) (by simp[csNo]) fun x hx hf=>?_;obtain ⟨(n:Int),_⟩:=x;dsimp only[entNone,x214,Z2,Zb,Zg];simp only[↓hcsNo,go_sem];try simp only[td,reduceCtorEq]
 have h0:(0:Int)≤n∧n≤2000:=hx;obtain ⟨n,rfl⟩:∃m:Nat,n=m:=⟨n.toNat,by omega⟩;refine XW_for 1000 x214_0d [0] Nat (fun j=>[(3,.own 1),(4,.val Z1 (j:Int))]) (fun j=>[(1,.row 232 Z2 (List.replicate j ((-1:Int),(-1:Int))))]) (fun j=>j≤n) (fun j=>n-j) 0 ?_ ?_ ?_
 ·dsimp only[x214_0d];simp only[go_sem];exact rfl
 ·exact Nat.zero_le n
 ·intro j hj;have w2:IntKind.i64.wrap ((j:Int)+1)=((j+1:Nat):Int):=i64_in _ (by omega);dsimp only[x214_0,x214_0d,Z1,Z2,Za,Zb,Zg];simp only[w2,↓hcsNo,go_sem];simp only[td,reduceCtorEq];refine ⟨fun h=>⟨?_,j+1,by omega,by omega,rfl,(List.replicate_succ' ..).symm⟩,fun h=>?_⟩
  ·rw[List.length_replicate];omega
  ·obtain rfl:j=n:=by omega
   rfl
end T
end Go.Proofs.YtcnfmabhghhdnaaGreat
end
