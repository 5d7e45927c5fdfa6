/- Parts of the proof of the law; no condition. -/
import Derived.Test.YtpocfbfmjippnaaGreatF18
import Derived.Test.YtpocfbfmjippnaaGreatF24
import Derived.Test.YtpocfbfmjippnaaGreatF25
import Derived.Test.YtpocfbfmjippnaaGreatF28
set_option linter.all false
section
namespace Go.Proofs.YtpocfbfmjippnaaGreat
open Go.RowKit Go.IntWalk
namespace T
def entIxf:Ent:=⟨141,.cons Z13 (.cons (.fn Z5 .bool) .nil),(.int .i64),false,none,fun _=>True,fun x=>idxF (x.2.1:DLoad→Bool) (x.1:List DLoad)⟩
def csIxf:List Ent:=[] theorem hcsIxf (f:FuncId):findEnt csIxf f=findEnt [] f:=rfl
theorem conIxf:Con Tryz.prog entIxf:=by
 refine con_is (C:=csIxf) x141 (by kernel_rfl) (by simp[csIxf]) fun x hx hf=>?_;obtain ⟨(l:List DLoad),(F:DLoad→Bool),_⟩:=x;have hl:l.length≤9223372036854775807:=hf.1.1;dsimp only[entIxf,x141,Zb,Zg];simp only[↓hcsIxf,go_sem];try simp only[td,reduceCtorEq]
 refine XW_for 1000 x141_0d [] Nat (fun j=>[(8,.val Z1 (j:Int))]) (fun _=>[]) (fun j=>j≤l.length∧∀i,i<j→F (l.getD i (0,0,0))=false) (fun j=>l.length-j) 0 ?_ ?_ ?_
 ·dsimp only[x141_0d];simp only[go_sem];try rfl
 ·exact ⟨Nat.zero_le _,fun i hi=>by omega⟩
 ·rintro j ⟨hj,hn⟩;dsimp only[x141_0,x141_0d,Z5,Za,Zb,Zg];simp only[↓hcsIxf,go_sem];try simp only[td,reduceCtorEq]
  have w2:j<l.length→IntKind.i64.wrap ((j:Int)+1)=((j+1:Nat):Int):=fun h=>i64_in _ (by omega);refine ⟨fun hj'=>⟨hj',fun q=>(idxF_at hj' hn q).symm,fun q=>⟨j+1,by omega,⟨hj',fun i hi=>?_⟩,w2 hj'⟩⟩,fun hj'=>(idxF_none fun i hi=>hn i (by omega)).symm⟩;by_cases c:i=j
  ·subst c;exact q
  ·exact hn i (by omega)
def entOver:Ent:=⟨142,.cons Z5 (.cons Z30 .nil),.bool,false,none,fun _=>True,fun x=>overB x.1 (carLoad x.2.1)⟩
def csOv:List Ent:=[] theorem hcsOv (f:FuncId):findEnt csOv f=findEnt [] f:=rfl
theorem conOver:Con Tryz.prog entOver:=by
 refine con_is (C:=csOv) x142 (by kernel_rfl) (by simp[csOv]) fun x hx hf=>?_;obtain ⟨⟨(a:Int),(b:Int),(c:Int)⟩,⟨(c1:Int),(c2:Int),(c3:Int),(c4:Int),(c5:Int),(c6:Int),(c7:Int),(c8:Int),(c9:Int)⟩,_⟩:=x;dsimp only[entOver,x142,Z1,Za,Zb,Zc,Ze,Zg];simp only[↓hcsOv,go_sem];try simp only[td,reduceCtorEq]
 unfold overB carLoad;rw[Bool.or_assoc]
def entFits:Ent:=⟨83,.cons Z17 (.cons Z10 (.cons Z7 .nil)),.cons Z1 (.cons Z1 .nil),true,none,fun _=>True,fun x=>((fitsF (carLoad x.1) x.2.1 x.2.2.1).1,(fitsF (carLoad x.1) x.2.1 x.2.2.1).2,())⟩
def csFts:List Ent:=[entProf,entPlaces,entIxf,entOver] theorem hcsFts (f:FuncId):findEnt csFts f=findEnt [entProf,entPlaces,entIxf,entOver] f:=rfl
theorem conFits:Con Tryz.prog entFits:=by
 refine con_is (C:=csFts) x83 (by kernel_rfl) (by simp[csFts,conProf,conPlaces,conIxf,conOver]) fun x hx hf=>?_;obtain ⟨⟨(c1:Int),(c2:Int),(c3:Int),(c4:Int),(c5:Int),(c6:Int),(c7:Int),(c8:Int),(c9:Int)⟩,(ss:List DStop),(rs:List DReq),_⟩:=x;dsimp only[entFits,x83,Z1,Z5,Za,Zb,Zc,Ze,Zg];simp only[↓hcsFts,entProf,entPlaces,entIxf,entOver,go_sem];try simp only[td,reduceCtorEq]
 refine ⟨fun q=>by rw[fits_bad (c:=carLoad (c1,c2,c3,c4,c5,c6,c7,c8,c9)) q],fun q=>⟨fun z=>by rw[fits_full (c:=carLoad (c1,c2,c3,c4,c5,c6,c7,c8,c9)) q z];rfl,fun z=>by rw[fits_ok (c:=carLoad (c1,c2,c3,c4,c5,c6,c7,c8,c9)) q z]⟩⟩
def begF (w:DWorld) (c:Int) (ss:List DStop):DChain×Int:=
 if asksF w c ss=false then (noChain,1) else if (fitsF (carLoad (carAt w c)) ss w.2.2.2.1).2≠0 then (noChain,27) else if togF w.2.2.2.2.1 ss w.2.2.2.1=false then (noChain,30) else chainF w c ss
def entBeg:Ent:=⟨51,.cons Z23 (.cons Z1 (.cons Z10 .nil)),.cons Z14 (.cons Z1 .nil),true,none,fun x=>List.length (α:=DStop) x.2.2.1≤24,fun x=>((begF x.1 x.2.1 x.2.2.1).1,(begF x.1 x.2.1 x.2.2.1).2,())⟩
def csBeg:List Ent:=[entAsk,entFits,entTog,entChn] theorem hcsBeg (f:FuncId):findEnt csBeg f=findEnt [entAsk,entFits,entTog,entChn] f:=rfl
theorem conBeg:Con Tryz.prog entBeg:=by
 refine con_is (C:=csBeg) x51 (by kernel_rfl) (by simp[csBeg,conAsk,conFits,conTog,conChn]) fun x hx hf=>?_;obtain ⟨⟨(N:Int),(A:List DArc),(C:List DCar),(Q:List DReq),(P:List DPair),(S1:Int),(S2:Int),(S3:Int)⟩,(c:Int),(ss:List DStop),_⟩:=x;replace hx:ss.length≤24:=hx;cases ha:asksF (N,A,C,Q,P,S1,S2,S3) c ss with
 |false=>
  have hz:begF (N,A,C,Q,P,S1,S2,S3) c ss=(([],[],[]),1):=by unfold begF;rw[if_pos ha];rfl
  dsimp only[entBeg,x51,Z14,Z17,Z21,Z22,Z23,Z7,Za,Zb,Zc,Zd,Zf,Zg,Zi];simp only[↓hcsBeg,entAsk,entFits,entTog,entChn,undef,ha,hz,go_sem];try simp only[ha,hz,td,reduceCtorEq]
 |true=>
  obtain ⟨hw,hc,hss⟩:=asks_iff.1 ha;dsimp only at hc hss;obtain ⟨c,rfl⟩:∃z:Nat,c=z:=⟨c.toNat,by omega⟩;have hcl:c<C.length:=by omega
  have hca:carAt (N,A,C,Q,P,S1,S2,S3) (c:Int)=C.getD c (0,0,0,0,0,0,0,0,0):=rfl;have hz:begF (N,A,C,Q,P,S1,S2,S3) c ss=if (fitsF (carLoad (C.getD c (0,0,0,0,0,0,0,0,0))) ss Q).2≠0 then (noChain,27) else if togF P ss Q=false then (noChain,30) else chainF (N,A,C,Q,P,S1,S2,S3) c ss:=by
   unfold begF;rw[if_neg (by rw[ha];simp),hca]
  dsimp only[entBeg,x51,Z14,Z17,Z21,Z22,Z23,Z7,Za,Zb,Zc,Zd,Zf,Zg,Zi];simp only[↓hcsBeg,entAsk,entFits,entTog,entChn,undef,ha,hcl,hx,go_sem];try simp only[ha,hcl,hx,td,reduceCtorEq]
  refine ⟨fun h=>?_,fun h=>⟨fun h2=>?_,fun h2=>?_⟩⟩
  ·rw[hz,if_pos h];rfl
  ·rw[hz,if_neg (fun q=>q h),if_pos h2];rfl
  ·rw[hz,if_neg (fun q=>q h),if_neg (by rw[h2];simp)]
end T
end Go.Proofs.YtpocfbfmjippnaaGreat
end
