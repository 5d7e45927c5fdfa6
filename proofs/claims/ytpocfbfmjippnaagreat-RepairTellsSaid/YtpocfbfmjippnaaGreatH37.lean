/- Parts of the proof of the law; no condition. -/
import Derived.Test.YtpocfbfmjippnaaGreatH36
set_option linter.all false
section
namespace Go.Proofs.YtpocfbfmjippnaaGreat
open Go.RowKit Go.IntWalk
namespace T
def entClF:Ent:=⟨57,.cons Z15 .nil,Z15,false,some 68,fun x=>List.length (α:=DStop) x.1≤1000000,fun x=>x.1⟩
def csClF:List Ent:=[] theorem hcsClF (f:FuncId):findEnt csClF f=findEnt [] f:=rfl
theorem conClF:Con Tryz.prog entClF:=by
 refine con_is (C:=csClF) x57 (by kernel_rfl) (by simp[csClF]) fun x hx hf=>?_;obtain ⟨(S:List DStop),_⟩:=x;have hS:S.length≤1000000:=hx;dsimp only[entClF,x57];simp only[↓hcsClF,go_sem];try simp only[td,reduceCtorEq]
 exact ⟨fun q=>q.symm,by omega⟩
def entIst:Ent:=⟨81,.cons Z15 (.cons Z1 (.cons Z1 (.cons Z1 .nil))),Z15,false,none,fun x=>List.length (α:=DStop) x.1≤1000,fun x=>stopsI x.1 x.2.1 x.2.2.1 x.2.2.2.1⟩
def csIst:List Ent:=[entClF,entInsStop] theorem hcsIst (f:FuncId):findEnt csIst f=findEnt [entClF,entInsStop] f:=rfl
theorem conIst:Con Tryz.prog entIst:=by
 refine con_is (C:=csIst) x81 (by kernel_rfl) (by simp[csIst,conClF,conInsStop]) fun x hx hf=>?_;obtain ⟨(ss:List DStop),(r:Int),(a:Int),(b:Int),_⟩:=x;have hl:ss.length≤1000:=hx;dsimp only[entIst,x81];by_cases h:a<0∨b<a∨(ss.length:Int)<b
 ·have e:stopsI ss r a b=[]:=by unfold stopsI;rw[if_pos h]
  have e2:(decide (a<0)||decide (b<a)||decide (b>(ss.length:Int)))=true:=by
   simp only[Bool.or_eq_true,decide_eq_true_eq];omega
  by_cases h1:a<0
  ·simp only[↓hcsIst,entClF,entInsStop,undef,e,h1,go_sem];try simp only[e,h1,td,reduceCtorEq]
  by_cases h2:b<a
  ·simp only[↓hcsIst,entClF,entInsStop,undef,e,h1,h2,go_sem];try simp only[e,h1,h2,td,reduceCtorEq]
  have h3:(ss.length:Int)<b:=by omega
  have h4:b>(ss.length:Int):=h3;simp only[↓hcsIst,entClF,entInsStop,undef,e,h1,h2,h3,h4,go_sem];try simp only[e,h1,h2,h3,h4,td,reduceCtorEq]
 ·have h1:¬a<0:=by omega
  have h2:¬b<a:=by omega
  have h3:¬(ss.length:Int)<b:=by omega
  have h4:¬b>(ss.length:Int):=h3;have a0:0≤a:=by omega
  have b0:0≤b:=by omega
  have b1:b≤(ss.length:Int):=by omega
  have hi:=insF_len ss (k:=b.toNat) (by omega) (r,false);have a1:a≤((insF ss b.toNat [(r,false)]).length:Int):=by omega
  have l1:ss.length≤1000000:=by omega
  have l2:(insF ss b.toNat [(r,false)]).length≤1000000:=by omega
  have e:stopsI ss r a b=insF (insF ss b.toNat [(r,false)]) a.toNat [(r,true)]:=by unfold stopsI;rw[if_neg h]
  rw[e];simp only[↓hcsIst,entClF,entInsStop,undef,h1,h2,h3,h4,a0,b0,b1,a1,l1,l2,go_sem];try simp only[h1,h2,h3,h4,a0,b0,b1,a1,l1,l2,td,reduceCtorEq]
def entIdxFuncStp:Ent:=⟨111,.cons Z15 (.cons (.fn Z2 .bool) .nil),(.int .i64),false,none,fun _=>True,fun x=>idxF x.2.1 x.1⟩
theorem conIdxFuncStp:Con Tryz.prog entIdxFuncStp:=by
 refine con_is (C:=[]) x111 (by kernel_rfl) (by simp) fun x _ hf=>?_;obtain ⟨(xs:List DStop),(p:DStop→Bool),_⟩:=x;have hl:xs.length≤maxLen:=hf.1.1;dsimp only[entIdxFuncStp,x111];simp only[go_sem];refine XW_for 1000 x111_0d [] Nat (fun k=>[(8,.val Z1 (k:Int))]) (fun _=>[]) (fun k=>k≤xs.length∧∀j,j<k→p (xs.getD j dStop)=false) (fun k=>xs.length-k) 0 ?_ ?_ ?_
 ·dsimp only[x111_0d];simp only[go_sem];rfl
 ·exact ⟨by omega,fun j hj=>by omega⟩
 ·intro k hk;dsimp only[x111_0,x111_0d];simp only[go_sem];dsimp only[maxLen] at hl;by_cases hkl:k<xs.length
  ·simp only[hkl,td,reduceCtorEq];refine ⟨fun h=>(idxF_at hkl hk.2 h).symm,fun h=>⟨k+1,by omega,⟨by omega,fun j hj=>?_⟩,i64_in _ (by omega)⟩⟩;rcases Nat.lt_succ_iff_lt_or_eq.1 hj with h'|rfl
   ·exact hk.2 j h'
   ·exact h
  ·simp only[hkl,td,reduceCtorEq];exact (idxF_none fun j hj=>hk.2 j (by omega)).symm
def entConFuncStp:Ent:=⟨64,.cons Z15 (.cons (.fn Z2 .bool) .nil),.bool,false,none,fun _=>True,fun x=>x.1.any x.2.1⟩
theorem conConFuncStp:Con Tryz.prog entConFuncStp:=by
 refine con_is (C:=[entIdxFuncStp]) x64 (by kernel_rfl) (by simp[conIdxFuncStp]) fun x _ hf=>?_;obtain ⟨(xs:List DStop),(p:DStop→Bool),_⟩:=x;dsimp only[entConFuncStp,entIdxFuncStp,x64];simp only[go_sem];refine eq_of_iff ?_;rw[←idxF_any];simp
def entEr1:Ent:=⟨136,.cons Z2 (.cons (.ptr (.int .i64)) .nil),.bool,false,none,fun _=>True,fun x=>decide ((x.1:DStop).1=x.2.1)⟩
def csEr1:List Ent:=[] theorem hcsEr1 (f:FuncId):findEnt csEr1 f=findEnt [] f:=rfl
theorem conEr1:Con Tryz.prog entEr1:=by
 refine con_is (C:=csEr1) x136 (by kernel_rfl) (by simp[csEr1]) fun x hx hf=>?_;obtain ⟨⟨(n:Int),(b:Bool)⟩,(m:Int),_⟩:=x;dsimp only[entEr1,x136];simp only[↓hcsEr1,go_sem];try simp only[td,reduceCtorEq]
 rfl
def entErr:Ent:=⟨80,.cons Z21 (.cons Z22 (.cons Z1 .nil)),(.int .i64),false,none,fun x=>List.length (α:=DStop) (x.2.1:DPlan).2.1≤22,fun x=>errI x.1 x.2.1 x.2.2.1⟩
def csErr:List Ent:=[entPlR,entCkP,entConFuncStp,entEr1] theorem hcsErr (f:FuncId):findEnt csErr f=findEnt [entPlR,entCkP,entConFuncStp,entEr1] f:=rfl
theorem conErr:Con Tryz.prog entErr:=by
 refine con_is (C:=csErr) x80 (by kernel_rfl) (by simp[csErr,conPlR,conCkP,conConFuncStp,conEr1]) fun x hx hf=>?_;obtain ⟨⟨(N:Int),(A:List DArc),(C:List DCar),(Q:List DReq),(R:List DPair),(S1:Int),(S2:Int),(S3:Int)⟩,⟨(c:Int),(ss:List DStop),(L:List DLeg),(G:List Int)⟩,(r:Int),_⟩:=x;have hl:ss.length≤22:=hx;have hl':ss.length≤24:=by omega
 dsimp only[entErr,x80];have hE:errI (N,A,C,Q,R,S1,S2,S3) (c,ss,L,G) r=if rightP (N,A,C,Q,R,S1,S2,S3)=false∨checkP (N,A,C,Q,R,S1,S2,S3) (c,ss,L,G)≠0∨r<0∨(Q.length:Int)≤r∨(ss.any fun s=>decide (s.1=r))=true then 1 else 0:=rfl
 have h78:¬(ss.length:Int)>78:=by omega
 cases h1:rightP (N,A,C,Q,R,S1,S2,S3)
 ·rw[h1,if_pos (.inl rfl)] at hE;simp only[↓hcsErr,entPlR,entCkP,entConFuncStp,entEr1,undef,hE,h1,hl',h78,go_sem];try simp only[hE,h1,hl',h78,td,reduceCtorEq]
 by_cases h2:checkP (N,A,C,Q,R,S1,S2,S3) (c,ss,L,G)=0
 ·by_cases h3:r<0
  ·rw[if_pos (.inr (.inr (.inl h3)))] at hE;simp only[↓hcsErr,entPlR,entCkP,entConFuncStp,entEr1,undef,hE,h1,h2,h3,hl',h78,go_sem];try simp only[hE,h1,h2,h3,hl',h78,td,reduceCtorEq]
  by_cases h4:(Q.length:Int)≤r
  ·rw[if_pos (.inr (.inr (.inr (.inl h4))))] at hE;have h4':r≥(Q.length:Int):=h4;simp only[↓hcsErr,entPlR,entCkP,entConFuncStp,entEr1,undef,hE,h1,h2,h3,h4,h4',hl',h78,go_sem];try simp only[hE,h1,h2,h3,h4,h4',hl',h78,td,reduceCtorEq]
  have h4':¬r≥(Q.length:Int):=h4;cases h5:(ss.any fun s=>decide (s.1=r))
  ·rw[if_neg (by rw[h1,h5];rintro (q|q|q|q|q)<;>first|exact h3 q|exact h4 q|exact q h2|cases q)] at hE;simp only[↓hcsErr,entPlR,entCkP,entConFuncStp,entEr1,undef,hE,h1,h2,h3,h4,h4',h5,hl',h78,go_sem];try simp only[hE,h1,h2,h3,h4,h4',h5,hl',h78,td,reduceCtorEq]
  ·rw[if_pos (.inr (.inr (.inr (.inr h5))))] at hE;simp only[↓hcsErr,entPlR,entCkP,entConFuncStp,entEr1,undef,hE,h1,h2,h3,h4,h4',h5,hl',h78,go_sem];try simp only[hE,h1,h2,h3,h4,h4',h5,hl',h78,td,reduceCtorEq]
 ·rw[if_pos (.inr (.inl h2))] at hE;simp only[↓hcsErr,entPlR,entCkP,entConFuncStp,entEr1,undef,hE,h1,h2,hl',h78,go_sem];try simp only[hE,h1,h2,hl',h78,td,reduceCtorEq]
def entNmd:Ent:=⟨74,.cons Z15 (.cons Z1 .nil),.bool,false,none,fun _=>True,fun x=>namedI x.1 x.2.1⟩
def csNmd:List Ent:=[] theorem hcsNmd (f:FuncId):findEnt csNmd f=findEnt [] f:=rfl
theorem conNmd:Con Tryz.prog entNmd:=by
 refine con_is (C:=csNmd) x74 (by kernel_rfl) (by simp[csNmd]) fun x hx hf=>?_;obtain ⟨(ss:List DStop),(r:Int),_⟩:=x;have hm:ss.length≤maxLen:=hf.1.1;dsimp only[maxLen] at hm;dsimp only[entNmd,x74];simp only[↓hcsNmd,go_sem];try simp only[td,reduceCtorEq]
 have hd:∀j,(∀i,i<j→(ss.getD i dStop).1≠r)→ss.length≤j→namedI ss r=false:=fun j h hj=>by
  unfold namedI;rw[List.any_eq_false];intro s hs;obtain ⟨i,hi,rfl⟩:=List.getElem_of_mem hs;have:=h i (by omega);simp only[List.getD,List.getElem?_eq_getElem hi,Option.getD_some] at this;simpa using this
 have hy:∀j,j<ss.length→(ss.getD j dStop).1=r→namedI ss r=true:=fun j hj h=>List.any_eq_true.2 ⟨_,getD_mem2 hj,decide_eq_true h⟩;refine XW_for 1000 x74_0d [] Nat (fun j=>[(5,.val Z1 (j:Int))]) (fun _=>[]) (fun j=>j≤ss.length∧∀i,i<j→(ss.getD i dStop).1≠r) (fun j=>ss.length-j) 0 ?_ ?_ ?_
 ·dsimp only[x74_0d];simp only[go_sem];try trivial
 ·exact ⟨Nat.zero_le _,fun i hi=>by omega⟩
 rintro j ⟨hj,hn⟩;have w2:j<ss.length→IntKind.i64.wrap ((j:Int)+1)=((j+1:Nat):Int):=fun h=>i64_in _ (by omega);dsimp only[x74_0,x74_0d];simp only[↓hcsNmd,undef,go_sem];try simp only[td,reduceCtorEq]
 refine ⟨fun hj'=>⟨hj',fun h=>?_,fun h=>⟨j+1,by omega,⟨hj',fun i hi=>?_⟩,w2 hj'⟩⟩,fun hj'=>?_⟩
 ·rw[hy j hj' h]
 ·rcases Nat.lt_or_ge i j with q|q
  ·exact hn i q
  ·rw[show i=j by omega];exact h
 ·rw[hd j hn (by omega)]
def entRst21:Ent:=⟨128,.cons Z15 (.cons Z1 (.cons Z1 (.cons Z1 .nil))),Z15,false,none,fun x=>List.length (α:=DStop) x.1≤1000,fun x=>stopsI x.1 x.2.1 x.2.2.1 x.2.2.2.1⟩
def csRst21:List Ent:=[] theorem hcsRst21 (f:FuncId):findEnt csRst21 f=findEnt [] f:=rfl
set_option maxHeartbeats 8000000 in
theorem conRst21:Con Tryz.prog entRst21:=by
 refine con_is (C:=csRst21) x128 (by kernel_rfl) (by simp[csRst21]) fun x hx hf=>?_;obtain ⟨(ss:List DStop),(r:Int),(a:Int),(b:Int),_⟩:=x;have hl:ss.length≤1000:=hx;dsimp only[entRst21,x128];by_cases h:a<0∨b<a∨(ss.length:Int)<b
 ·have e:stopsI ss r a b=[]:=by unfold stopsI;rw[if_pos h]
  by_cases h1:a<0
  ·simp only[↓hcsRst21,undef,e,h1,go_sem];try simp only[e,h1,td,reduceCtorEq]
  by_cases h2:b<a
  ·simp only[↓hcsRst21,undef,e,h1,h2,go_sem];try simp only[e,h1,h2,td,reduceCtorEq]
  have h3:(ss.length:Int)<b:=by omega
  have h4:b>(ss.length:Int):=h3;simp only[↓hcsRst21,undef,e,h1,h2,h3,h4,go_sem];try simp only[e,h1,h2,h3,h4,td,reduceCtorEq]
 ·have h1:¬a<0:=by omega
  have h2:¬b<a:=by omega
  have h3:¬(ss.length:Int)<b:=by omega
  have h4:¬b>(ss.length:Int):=h3;obtain ⟨a,rfl⟩:∃n:Nat,a=n:=⟨a.toNat,by omega⟩;obtain ⟨b,rfl⟩:∃n:Nat,b=n:=⟨b.toNat,by omega⟩;rw[←outI_all (r:=r) (ss:=ss) (a:=a) (b:=b) (by omega) (by omega)];simp only[↓hcsRst21,undef,h1,h2,h3,h4,go_sem];try simp only[h1,h2,h3,h4,td,reduceCtorEq]
  refine XW_for 1000 x128_0d [0] Nat (fun j=>[(10,.val Z1 (j:Int)),(9,.own 14)]) (fun j=>[(14,.row 68 Z2 (outI ss r a b j))]) (fun j=>j≤ss.length+1) (fun j=>ss.length+1-j) 0 ?_ ?_ ?_
  ·dsimp only[x128_0d];simp only[go_sem];try trivial
  ·exact Nat.zero_le _
  intro j hj;have ho:=outI_len (ss:=ss) (r:=r) (a:=a) (b:=b) j;dsimp only[x128_0,x128_0d];by_cases hj':j≤ss.length
  ·have hji:(j:Int)≤(ss.length:Int):=by omega
   have w2:IntKind.i64.wrap ((j:Int)+1)=((j+1:Nat):Int):=i64_in _ (by omega);have b1:((outI ss r a b j).length+1)*16≤140737488355328:=by omega
   have b2:((outI ss r a b j).length+1+1)*16≤140737488355328:=by omega
   have b3:((outI ss r a b j).length+1+1+1)*16≤140737488355328:=by omega
   have hs:outI ss r a b (j+1)=outI ss r a b j++((if j=a then [(r,true)] else [])++((if j=b then [(r,false)] else [])++if j<ss.length then [ss.getD j dStop] else [])):=rfl;by_cases ca:j=a
   ·by_cases cb:j=b
    ·by_cases cl:j<ss.length
     ·have ca':((j:Int)=(a:Int))=True:=eq_true (by omega);have cb':((j:Int)=(b:Int))=True:=eq_true (by omega);have cl':((j:Int)<(ss.length:Int))=True:=eq_true (by omega);have cl'':(j<ss.length)=True:=eq_true (by omega);rw[if_pos ca,if_pos cb,if_pos cl] at hs;try simp only[List.nil_append,List.append_nil] at hs
      simp only[↓hcsRst21,undef,hji,hj',w2,ca',cb',cl',cl'',b1,b2,b3,List.length_append,go_sem];try simp only[hji,hj',w2,ca',cb',cl',cl'',b1,b2,b3,List.length_append,td,reduceCtorEq]
      exact ⟨j+1,by omega,by omega,rfl,by rw[hs];try simp only[List.append_assoc]⟩
     ·have ca':((j:Int)=(a:Int))=True:=eq_true (by omega);have cb':((j:Int)=(b:Int))=True:=eq_true (by omega);have cl':((j:Int)<(ss.length:Int))=False:=eq_false (by omega);have cl'':(j<ss.length)=False:=eq_false (by omega);rw[if_pos ca,if_pos cb,if_neg cl] at hs;try simp only[List.nil_append,List.append_nil] at hs
      simp only[↓hcsRst21,undef,hji,hj',w2,ca',cb',cl',cl'',b1,b2,b3,List.length_append,go_sem];try simp only[hji,hj',w2,ca',cb',cl',cl'',b1,b2,b3,List.length_append,td,reduceCtorEq]
      exact ⟨j+1,by omega,by omega,rfl,by rw[hs];try simp only[List.append_assoc]⟩
    ·by_cases cl:j<ss.length
     ·have ca':((j:Int)=(a:Int))=True:=eq_true (by omega);have cb':((j:Int)=(b:Int))=False:=eq_false (by omega);have cl':((j:Int)<(ss.length:Int))=True:=eq_true (by omega);have cl'':(j<ss.length)=True:=eq_true (by omega);rw[if_pos ca,if_neg cb,if_pos cl] at hs;try simp only[List.nil_append,List.append_nil] at hs
      simp only[↓hcsRst21,undef,hji,hj',w2,ca',cb',cl',cl'',b1,b2,b3,List.length_append,go_sem];try simp only[hji,hj',w2,ca',cb',cl',cl'',b1,b2,b3,List.length_append,td,reduceCtorEq]
      exact ⟨j+1,by omega,by omega,rfl,by rw[hs];try simp only[List.append_assoc]⟩
     ·have ca':((j:Int)=(a:Int))=True:=eq_true (by omega);have cb':((j:Int)=(b:Int))=False:=eq_false (by omega);have cl':((j:Int)<(ss.length:Int))=False:=eq_false (by omega);have cl'':(j<ss.length)=False:=eq_false (by omega);rw[if_pos ca,if_neg cb,if_neg cl] at hs;try simp only[List.nil_append,List.append_nil] at hs
      simp only[↓hcsRst21,undef,hji,hj',w2,ca',cb',cl',cl'',b1,b2,b3,List.length_append,go_sem];try simp only[hji,hj',w2,ca',cb',cl',cl'',b1,b2,b3,List.length_append,td,reduceCtorEq]
      exact ⟨j+1,by omega,by omega,rfl,by rw[hs];try simp only[List.append_assoc]⟩
   ·by_cases cb:j=b
    ·by_cases cl:j<ss.length
     ·have ca':((j:Int)=(a:Int))=False:=eq_false (by omega);have cb':((j:Int)=(b:Int))=True:=eq_true (by omega);have cl':((j:Int)<(ss.length:Int))=True:=eq_true (by omega);have cl'':(j<ss.length)=True:=eq_true (by omega);rw[if_neg ca,if_pos cb,if_pos cl] at hs;try simp only[List.nil_append,List.append_nil] at hs
      simp only[↓hcsRst21,undef,hji,hj',w2,ca',cb',cl',cl'',b1,b2,b3,List.length_append,go_sem];try simp only[hji,hj',w2,ca',cb',cl',cl'',b1,b2,b3,List.length_append,td,reduceCtorEq]
      exact ⟨j+1,by omega,by omega,rfl,by rw[hs];try simp only[List.append_assoc]⟩
     ·have ca':((j:Int)=(a:Int))=False:=eq_false (by omega);have cb':((j:Int)=(b:Int))=True:=eq_true (by omega);have cl':((j:Int)<(ss.length:Int))=False:=eq_false (by omega);have cl'':(j<ss.length)=False:=eq_false (by omega);rw[if_neg ca,if_pos cb,if_neg cl] at hs;try simp only[List.nil_append,List.append_nil] at hs
      simp only[↓hcsRst21,undef,hji,hj',w2,ca',cb',cl',cl'',b1,b2,b3,List.length_append,go_sem];try simp only[hji,hj',w2,ca',cb',cl',cl'',b1,b2,b3,List.length_append,td,reduceCtorEq]
      exact ⟨j+1,by omega,by omega,rfl,by rw[hs];try simp only[List.append_assoc]⟩
    ·by_cases cl:j<ss.length
     ·have ca':((j:Int)=(a:Int))=False:=eq_false (by omega);have cb':((j:Int)=(b:Int))=False:=eq_false (by omega);have cl':((j:Int)<(ss.length:Int))=True:=eq_true (by omega);have cl'':(j<ss.length)=True:=eq_true (by omega);rw[if_neg ca,if_neg cb,if_pos cl] at hs;try simp only[List.nil_append,List.append_nil] at hs
      simp only[↓hcsRst21,undef,hji,hj',w2,ca',cb',cl',cl'',b1,b2,b3,List.length_append,go_sem];try simp only[hji,hj',w2,ca',cb',cl',cl'',b1,b2,b3,List.length_append,td,reduceCtorEq]
      exact ⟨j+1,by omega,by omega,rfl,by rw[hs];try simp only[List.append_assoc]⟩
     ·have ca':((j:Int)=(a:Int))=False:=eq_false (by omega);have cb':((j:Int)=(b:Int))=False:=eq_false (by omega);have cl':((j:Int)<(ss.length:Int))=False:=eq_false (by omega);have cl'':(j<ss.length)=False:=eq_false (by omega);rw[if_neg ca,if_neg cb,if_neg cl] at hs;try simp only[List.nil_append,List.append_nil] at hs
      simp only[↓hcsRst21,undef,hji,hj',w2,ca',cb',cl',cl'',b1,b2,b3,List.length_append,go_sem];try simp only[hji,hj',w2,ca',cb',cl',cl'',b1,b2,b3,List.length_append,td,reduceCtorEq]
      exact ⟨j+1,by omega,by omega,rfl,by rw[hs];try simp only[List.append_assoc]⟩
  ·have hji:¬(j:Int)≤(ss.length:Int):=by omega
   obtain rfl:j=ss.length+1:=by omega
   simp only[↓hcsRst21,undef,hji,hj',go_sem];try simp only[hji,hj',td,reduceCtorEq]
end T
end Go.Proofs.YtpocfbfmjippnaaGreat
end
