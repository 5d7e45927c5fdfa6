/- Parts of the proof of the law; no condition. -/
import Derived.Test.YtpocfbfmjippnaaGreatF12
import Derived.Test.YtpocfbfmjippnaaGreatF21
import Derived.Test.YtpocfbfmjippnaaGreatF22
set_option linter.all false
section
namespace Go.Proofs.YtpocfbfmjippnaaGreat
open Go.RowKit Go.IntWalk
namespace T
def entAsk:Ent:=⟨82,.cons Z23 (.cons Z1 (.cons Z10 .nil)),.bool,false,none,fun _=>True,fun x=>asksF x.1 x.2.1 x.2.2.1⟩
def csAs:List Ent:=[entPlR,entPin,entRightS] theorem hcsAs (f:FuncId):findEnt csAs f=findEnt [entPlR,entPin,entRightS] f:=rfl
set_option maxHeartbeats 4000000 in
theorem conAsk:Con Tryz.prog entAsk:=by
 refine con_is (C:=csAs) x82 (by kernel_rfl) (by simp[csAs,conPlR,conPin,conRightS]) fun x hx hf=>?_;obtain ⟨⟨(N:Int),(A:List DArc),(C:List DCar),(Q:List DReq),(P:List DPair),(S1:Int),(S2:Int),(S3:Int)⟩,(c:Int),(ss:List DStop),_⟩:=x;cases hw:rightP (N,A,C,Q,P,S1,S2,S3) with
 |false=>
  have hz:asksF (N,A,C,Q,P,S1,S2,S3) c ss=false:=by unfold asksF;rw[hw];rfl
  dsimp only[entAsk,x82,Z1,Z22,Z23,Z7,Za,Zb,Zc,Ze,Zg];simp only[↓hcsAs,entPlR,entPin,entRightS,undef,hw,hz,go_sem];try simp only[hw,hz,td,reduceCtorEq]
 |true=>
  have hcl:C.length≤600:=(rightP_iff.1 hw).2.1.1;have w:IntKind.i64.wrap ((C.length:Int)-1)=(C.length:Int)-1:=i64_in _ (by omega);have hz:asksF (N,A,C,Q,P,S1,S2,S3) c ss=(allIn ((C.length:Int)-1) [c]&&rightS ss Q):=by
   unfold asksF allIn;rw[hw,Bool.true_and];congr 1;rw[Bool.eq_iff_iff];simp;try omega
  cases h1:allIn ((C.length:Int)-1) [c] with
  |false=>
   rw[h1] at hz;dsimp only[entAsk,x82,Z1,Z22,Z23,Z7,Za,Zb,Zc,Ze,Zg];simp only[↓hcsAs,entPlR,entPin,entRightS,undef,hw,hz,w,h1,go_sem];try simp only[hw,hz,w,h1,td,reduceCtorEq]
  |true=>
   rw[h1] at hz;dsimp only[entAsk,x82,Z1,Z22,Z23,Z7,Za,Zb,Zc,Ze,Zg];simp only[↓hcsAs,entPlR,entPin,entRightS,undef,hw,hz,w,h1,go_sem];try simp only[hw,hz,w,h1,td,reduceCtorEq]
def entCh1:Ent:=⟨131,.cons Z5 (.cons Z5 .nil),(.int .i64),false,none,fun _=>True,fun x=>IntKind.i64.wrap ((x.1:DRide).1-(x.2.1:DRide).1)⟩
def csCh1:List Ent:=[] theorem hcsCh1 (f:FuncId):findEnt csCh1 f=findEnt [] f:=rfl
theorem conCh1:Con Tryz.prog entCh1:=by
 refine con_is (C:=csCh1) x131 (by kernel_rfl) (by simp[csCh1]) fun x hx hf=>?_;obtain ⟨⟨(a:Int),(b:Int),(d:Int)⟩,⟨(a':Int),(b':Int),(d':Int)⟩,_⟩:=x;dsimp only[entCh1,x131,Z1,Zb,Zg];simp only[↓hcsCh1,go_sem];try simp only[td,reduceCtorEq]
def entCh2:Ent:=⟨132,.cons Z1 (.cons Z30 (.cons Z29 (.cons (.ptr Z10) .nil))),(.int .i64),false,none,fun x=>(0≤(x.1:Int)∧(x.1:Int)≤(x.2.2.2.1:List DStop).length)∧RightS x.2.2.2.1 (x.2.2.1:DWorld).2.2.2.1,fun x=>if (x.1:Int)=0 then (x.2.1:DCar).2.1 else if ((x.2.2.2.1:List DStop).getD ((x.1:Int)-1).toNat dStop).2=true then (reqAt x.2.2.1 ((x.2.2.2.1:List DStop).getD ((x.1:Int)-1).toNat dStop).1).2.1 else (reqAt x.2.2.1 ((x.2.2.2.1:List DStop).getD ((x.1:Int)-1).toNat dStop).1).2.2.1⟩
def csCh2:List Ent:=[] theorem hcsCh2 (f:FuncId):findEnt csCh2 f=findEnt [] f:=rfl
theorem conCh2:Con Tryz.prog entCh2:=by
 refine con_is (C:=csCh2) x132 (by kernel_rfl) (by simp[csCh2]) fun x hx hf=>?_;obtain ⟨(k:Int),⟨(o:Int),(n:Int),(r:Int),(e:Int),(s:Int),(c:Int),(b:Int),(g:Int),(f:Int)⟩,⟨(N:Int),(A:List DArc),(C:List DCar),(Q:List DReq),(P:List DPair),(S1:Int),(S2:Int),(S3:Int)⟩,(ss:List DStop),_⟩:=x;obtain ⟨⟨h1,h2⟩,h3⟩:=hx;replace h1:0≤k:=h1;replace h2:k≤(ss.length:Int):=h2;replace h3:RightS ss Q:=h3;by_cases hk:k=0
 ·subst hk;dsimp only[entCh2,x132,Z1,Z10,Z6,Z7,Z8,Za,Zb,Zc,Zd,Zf,Zg];simp only[↓hcsCh2,go_sem];try simp only[td,reduceCtorEq]
 obtain ⟨k,rfl⟩:∃z:Nat,k=((z+1:Nat):Int):=⟨k.toNat-1,by omega⟩;have hkl:k<ss.length:=by omega
 have w:IntKind.i64.wrap (((k+1:Nat):Int)-1)=(k:Int):=(i64_in _ (by have:=h3.1.1;omega)).trans (by omega);have w':(((k+1:Nat):Int)-1).toNat=k:=by omega
 have hq:=(h3.2 k hkl).1;generalize hS:ss.getD k dStop=st at hq;have hS':ss.getD k (0,false)=st:=hS;obtain ⟨r',p⟩:=st;dsimp only at hq;obtain ⟨r',rfl⟩:∃z:Nat,r'=z:=⟨r'.toNat,by omega⟩;have hql:r'<Q.length:=by omega
 dsimp only[entCh2,x132,Z1,Z10,Z6,Z7,Z8,Za,Zb,Zc,Zd,Zf,Zg];simp only[↓hcsCh2,hk,w,w',hkl,hS',hql,go_sem];try simp only[hk,w,w',hkl,hS',hql,td,reduceCtorEq]
 exact ⟨fun h=>by rw[if_pos h];rfl,fun h=>by rw[if_neg (by rw[h];simp)];rfl⟩
end T
end Go.Proofs.YtpocfbfmjippnaaGreat
end
