/- Parts of the proof of the law; no condition. -/
import Derived.Test.YtcnfmabhghhdnaaGreatA33
set_option linter.all false
section
namespace Go.Proofs.YtcnfmabhghhdnaaGreat
open Go.RowKit Go.IntWalk
namespace T
def entAt23:Ent:=⟨22,.cons Z12 (.cons Z1 (.cons .bool .nil)),(.int .i64),false,none,fun _=>True,fun x=>atF (x.2.1,x.2.2.1) x.1⟩
def csAt23:List Ent:=[] theorem hcsAt23 (f:FuncId):findEnt csAt23 f=findEnt [] f:=rfl
theorem conAt23:Con Tryz.prog entAt23:=by
 refine con_is (C:=csAt23) x22 (by kernel_rfl) (by simp[csAt23]) fun x hx hf=>?_;obtain ⟨(ss:List DStop),(k:Int),(p:Bool),_⟩:=x;have hl:ss.length≤9223372036854775807:=hf.1.1;dsimp only[entAt23,x22,Zb,Zg];simp only[↓hcsAt23,go_sem];try simp only[td,reduceCtorEq]
 refine XW_for 1000 x22_0d [] Nat (fun j=>[(7,.val Z1 (j:Int))]) (fun _=>[]) (fun j=>j≤ss.length∧(k,p)∉ss.take j) (fun j=>ss.length-j) 0 ?_ ?_ ?_
 ·dsimp only[x22_0d];simp only[go_sem];try rfl
 ·exact ⟨Nat.zero_le _,by simp⟩
 ·rintro j ⟨hj,hn⟩;dsimp only[x22_0,x22_0d,Z1,Z8,Za,Zb,Zc,Ze,Zg];simp only[↓hcsAt23,go_sem];try simp only[td,reduceCtorEq]
  have w2:j<ss.length→IntKind.i64.wrap ((j:Int)+1)=((j+1:Nat):Int):=fun h=>i64_in _ (by omega);refine ⟨fun hj'=>⟨⟨hj',fun e=>⟨e,hj'⟩⟩,fun e=>(atF_at (x:=(k,p)) hj' (Prod.ext e.1 e.2) hn).symm,fun e=>⟨j+1,by omega,⟨hj',at_next hj' hn fun q=>e (congrArg Prod.fst q) (congrArg Prod.snd q)⟩,w2 hj'⟩⟩,fun hj'=>(atF_none (at_end (by omega) hn)).symm⟩
def entWot23:Ent:=⟨24,.cons Z12 (.cons Z1 .nil),Z12,false,none,fun x=>List.length (α:=DStop) x.1≤1000000,fun x=>outS x.1 x.2.1⟩
def csWot23:List Ent:=[] theorem hcsWot23 (f:FuncId):findEnt csWot23 f=findEnt [] f:=rfl
theorem conWot23:Con Tryz.prog entWot23:=by
 refine con_is (C:=csWot23) x24 (by kernel_rfl) (by simp[csWot23]) fun x hx hf=>?_;obtain ⟨(ss:List DStop),(r:Int),_⟩:=x;have hl:ss.length≤1000000:=hx;dsimp only[entWot23,x24,Z8,Zb,Zg];simp only[↓hcsWot23,go_sem];try simp only[td,reduceCtorEq]
 refine XW_for 1000 x24_0d [] Nat (fun j=>[(6,.val Z1 (j:Int)),(5,.own 5)]) (fun j=>[(5,.row 94 Z8 (outS (ss.take j) r))]) (fun j=>j≤ss.length) (fun j=>ss.length-j) 0 ?_ ?_ ?_
 ·dsimp only[x24_0d];simp only[go_sem];try trivial
 ·exact Nat.zero_le _
 intro j hj;dsimp only[x24_0,x24_0d,Z1,Z8,Za,Zb,Zc,Zg];by_cases hj':j<ss.length
 ·have w2:IntKind.i64.wrap ((j:Int)+1)=((j+1:Nat):Int):=i64_in _ (by omega);have hlo:=outS_len (ss.take j) r;rw[List.length_take] at hlo;have hb:((outS (ss.take j) r).length+1)*16≤140737488355328:=by omega
  have hn:=outS_take (r:=r) hj';by_cases c:(ss.getD j dStop).1=r
  ·rw[if_pos c] at hn;simp only[↓hcsWot23,undef,hj',w2,c,hb,go_sem];try simp only[hj',w2,c,hb,td,reduceCtorEq]
   exact ⟨j+1,by omega,by omega,rfl,hn.symm⟩
  ·rw[if_neg c] at hn;simp only[↓hcsWot23,undef,hj',w2,c,hb,go_sem];try simp only[hj',w2,c,hb,td,reduceCtorEq]
   exact ⟨j+1,by omega,by omega,rfl,hn.symm⟩
 ·obtain rfl:j=ss.length:=by omega
  simp only[↓hcsWot23,undef,hj',List.take_length,go_sem];try simp only[hj',List.take_length,td,reduceCtorEq]
def entWth23:Ent:=⟨58,.cons Z12 (.cons Z1 (.cons Z1 (.cons Z1 .nil))),Z12,false,none,fun x=>List.length (α:=DStop) x.1≤1000∧0≤(x.2.2.1:Int)∧(x.2.2.1:Int)≤x.2.2.2.1∧(x.2.2.2.1:Int)≤List.length (α:=DStop) x.1,fun x=>stopsI x.1 x.2.1 x.2.2.1 x.2.2.2.1⟩
def csWth23:List Ent:=[] theorem hcsWth23 (f:FuncId):findEnt csWth23 f=findEnt [] f:=rfl
set_option maxHeartbeats 8000000 in
theorem conWth23:Con Tryz.prog entWth23:=by
 refine con_is (C:=csWth23) x58 (by kernel_rfl) (by simp[csWth23]) fun x hx hf=>?_;obtain ⟨(ss:List DStop),(r:Int),(a:Int),(b:Int),_⟩:=x;obtain ⟨hl,h1,h2,h3⟩:ss.length≤1000∧0≤a∧a≤b∧b≤ss.length:=hx;dsimp only[entWth23,x58,Z8,Zb,Zg];obtain ⟨a,rfl⟩:∃n:Nat,a=n:=⟨a.toNat,by omega⟩;obtain ⟨b,rfl⟩:∃n:Nat,b=n:=⟨b.toNat,by omega⟩;rw[←outI_all (r:=r) (ss:=ss) (a:=a) (b:=b) (by omega) (by omega)];simp only[↓hcsWth23,undef,go_sem];try simp only[td,reduceCtorEq]
 refine XW_for 1000 x58_0d [0] Nat (fun j=>[(10,.val Z1 (j:Int)),(9,.own 14)]) (fun j=>[(14,.row 94 Z8 (outI ss r a b j))]) (fun j=>j≤ss.length+1) (fun j=>ss.length+1-j) 0 ?_ ?_ ?_
 ·dsimp only[x58_0d];simp only[go_sem];try trivial
 ·exact Nat.zero_le _
 intro j hj;have ho:=outI_len (ss:=ss) (r:=r) (a:=a) (b:=b) j;dsimp only[x58_0,x58_0d,Z1,Z8,Za,Zb,Zc,Zg];by_cases hj':j≤ss.length
 ·have hji:(j:Int)≤(ss.length:Int):=by omega
  have w2:IntKind.i64.wrap ((j:Int)+1)=((j+1:Nat):Int):=i64_in _ (by omega);have b1:((outI ss r a b j).length+1)*16≤140737488355328:=by omega
  have b2:((outI ss r a b j).length+1+1)*16≤140737488355328:=by omega
  have b3:((outI ss r a b j).length+1+1+1)*16≤140737488355328:=by omega
  have hs:outI ss r a b (j+1)=outI ss r a b j++((if j=a then [(r,true)] else [])++((if j=b then [(r,false)] else [])++if j<ss.length then [ss.getD j dStop] else [])):=rfl;by_cases ca:j=a
  ·by_cases cb:j=b
   ·by_cases cl:j<ss.length
    ·have ca':((j:Int)=(a:Int))=True:=eq_true (by omega);have cb':((j:Int)=(b:Int))=True:=eq_true (by omega);have cl':((j:Int)<(ss.length:Int))=True:=eq_true (by omega);have cl'':(j<ss.length)=True:=eq_true (by omega);rw[if_pos ca,if_pos cb,if_pos cl] at hs;try simp only[List.nil_append,List.append_nil] at hs
     simp only[↓hcsWth23,undef,hji,hj',w2,ca',cb',cl',cl'',b1,b2,b3,List.length_append,go_sem];try simp only[hji,hj',w2,ca',cb',cl',cl'',b1,b2,b3,List.length_append,td,reduceCtorEq]
     exact ⟨j+1,by omega,by omega,rfl,by rw[hs];try simp only[List.append_assoc]⟩
    ·have ca':((j:Int)=(a:Int))=True:=eq_true (by omega);have cb':((j:Int)=(b:Int))=True:=eq_true (by omega);have cl':((j:Int)<(ss.length:Int))=False:=eq_false (by omega);have cl'':(j<ss.length)=False:=eq_false (by omega);rw[if_pos ca,if_pos cb,if_neg cl] at hs;try simp only[List.nil_append,List.append_nil] at hs
     simp only[↓hcsWth23,undef,hji,hj',w2,ca',cb',cl',cl'',b1,b2,b3,List.length_append,go_sem];try simp only[hji,hj',w2,ca',cb',cl',cl'',b1,b2,b3,List.length_append,td,reduceCtorEq]
     exact ⟨j+1,by omega,by omega,rfl,by rw[hs];try simp only[List.append_assoc]⟩
   ·by_cases cl:j<ss.length
    ·have ca':((j:Int)=(a:Int))=True:=eq_true (by omega);have cb':((j:Int)=(b:Int))=False:=eq_false (by omega);have cl':((j:Int)<(ss.length:Int))=True:=eq_true (by omega);have cl'':(j<ss.length)=True:=eq_true (by omega);rw[if_pos ca,if_neg cb,if_pos cl] at hs;try simp only[List.nil_append,List.append_nil] at hs
     simp only[↓hcsWth23,undef,hji,hj',w2,ca',cb',cl',cl'',b1,b2,b3,List.length_append,go_sem];try simp only[hji,hj',w2,ca',cb',cl',cl'',b1,b2,b3,List.length_append,td,reduceCtorEq]
     exact ⟨j+1,by omega,by omega,rfl,by rw[hs];try simp only[List.append_assoc]⟩
    ·have ca':((j:Int)=(a:Int))=True:=eq_true (by omega);have cb':((j:Int)=(b:Int))=False:=eq_false (by omega);have cl':((j:Int)<(ss.length:Int))=False:=eq_false (by omega);have cl'':(j<ss.length)=False:=eq_false (by omega);rw[if_pos ca,if_neg cb,if_neg cl] at hs;try simp only[List.nil_append,List.append_nil] at hs
     simp only[↓hcsWth23,undef,hji,hj',w2,ca',cb',cl',cl'',b1,b2,b3,List.length_append,go_sem];try simp only[hji,hj',w2,ca',cb',cl',cl'',b1,b2,b3,List.length_append,td,reduceCtorEq]
     exact ⟨j+1,by omega,by omega,rfl,by rw[hs];try simp only[List.append_assoc]⟩
  ·by_cases cb:j=b
   ·by_cases cl:j<ss.length
    ·have ca':((j:Int)=(a:Int))=False:=eq_false (by omega);have cb':((j:Int)=(b:Int))=True:=eq_true (by omega);have cl':((j:Int)<(ss.length:Int))=True:=eq_true (by omega);have cl'':(j<ss.length)=True:=eq_true (by omega);rw[if_neg ca,if_pos cb,if_pos cl] at hs;try simp only[List.nil_append,List.append_nil] at hs
     simp only[↓hcsWth23,undef,hji,hj',w2,ca',cb',cl',cl'',b1,b2,b3,List.length_append,go_sem];try simp only[hji,hj',w2,ca',cb',cl',cl'',b1,b2,b3,List.length_append,td,reduceCtorEq]
     exact ⟨j+1,by omega,by omega,rfl,by rw[hs];try simp only[List.append_assoc]⟩
    ·have ca':((j:Int)=(a:Int))=False:=eq_false (by omega);have cb':((j:Int)=(b:Int))=True:=eq_true (by omega);have cl':((j:Int)<(ss.length:Int))=False:=eq_false (by omega);have cl'':(j<ss.length)=False:=eq_false (by omega);rw[if_neg ca,if_pos cb,if_neg cl] at hs;try simp only[List.nil_append,List.append_nil] at hs
     simp only[↓hcsWth23,undef,hji,hj',w2,ca',cb',cl',cl'',b1,b2,b3,List.length_append,go_sem];try simp only[hji,hj',w2,ca',cb',cl',cl'',b1,b2,b3,List.length_append,td,reduceCtorEq]
     exact ⟨j+1,by omega,by omega,rfl,by rw[hs];try simp only[List.append_assoc]⟩
   ·by_cases cl:j<ss.length
    ·have ca':((j:Int)=(a:Int))=False:=eq_false (by omega);have cb':((j:Int)=(b:Int))=False:=eq_false (by omega);have cl':((j:Int)<(ss.length:Int))=True:=eq_true (by omega);have cl'':(j<ss.length)=True:=eq_true (by omega);rw[if_neg ca,if_neg cb,if_pos cl] at hs;try simp only[List.nil_append,List.append_nil] at hs
     simp only[↓hcsWth23,undef,hji,hj',w2,ca',cb',cl',cl'',b1,b2,b3,List.length_append,go_sem];try simp only[hji,hj',w2,ca',cb',cl',cl'',b1,b2,b3,List.length_append,td,reduceCtorEq]
     exact ⟨j+1,by omega,by omega,rfl,by rw[hs];try simp only[List.append_assoc]⟩
    ·have ca':((j:Int)=(a:Int))=False:=eq_false (by omega);have cb':((j:Int)=(b:Int))=False:=eq_false (by omega);have cl':((j:Int)<(ss.length:Int))=False:=eq_false (by omega);have cl'':(j<ss.length)=False:=eq_false (by omega);rw[if_neg ca,if_neg cb,if_neg cl] at hs;try simp only[List.nil_append,List.append_nil] at hs
     simp only[↓hcsWth23,undef,hji,hj',w2,ca',cb',cl',cl'',b1,b2,b3,List.length_append,go_sem];try simp only[hji,hj',w2,ca',cb',cl',cl'',b1,b2,b3,List.length_append,td,reduceCtorEq]
     exact ⟨j+1,by omega,by omega,rfl,by rw[hs];try simp only[List.append_assoc]⟩
 ·have hji:¬(j:Int)≤(ss.length:Int):=by omega
  obtain rfl:j=ss.length+1:=by omega
  simp only[↓hcsWth23,undef,hji,hj',go_sem];try simp only[hji,hj',td,reduceCtorEq]
end T
end Go.Proofs.YtcnfmabhghhdnaaGreat
end
