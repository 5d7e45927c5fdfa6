/- Parts of the proof of the law; no condition. -/
import Derived.Test.YtpocfbfmjippnaaGreatH6
set_option linter.all false
section
namespace Go.Proofs.YtpocfbfmjippnaaGreat
open Go.RowKit Go.IntWalk
namespace T
def in3 (n a b:Int):Bool:=decide (a≤n∧n≤b)
def entIn16:Ent:=⟨171,.cons Z1 (.cons Z1 (.cons Z1 .nil)),.bool,false,none,fun _=>True,fun x=>in3 x.1 x.2.1 x.2.2.1⟩
def csIn6:List Ent:=[] theorem hcsIn6 (f:FuncId):findEnt csIn6 f=findEnt [] f:=rfl
theorem conIn16:Con Tryz.prog entIn16:=by
 refine con_is (C:=csIn6) x171 (by kernel_rfl) (by simp[csIn6]) fun x hx hf=>?_;obtain ⟨(n:Int),(a:Int),(b:Int),_⟩:=x;dsimp only[entIn16,x171];simp only[↓hcsIn6,go_sem];try simp only[td,reduceCtorEq]
 unfold in3;rw[Bool.eq_iff_iff];simp
def entRR16:Ent:=⟨123,.cons Z18 .nil,.bool,false,none,fun _=>True,fun x=>rightC x.1⟩
def csR16:List Ent:=[entIn16] theorem hcsR16 (f:FuncId):findEnt csR16 f=findEnt [entIn16] f:=rfl
theorem conRR16:Con Tryz.prog entRR16:=by
 refine con_is (C:=csR16) x123 (by kernel_rfl) (by simp[csR16,conIn16]) fun x hx hf=>?_;obtain ⟨⟨(W:List DWin),(L:List DLeg),(R:List DRide)⟩,_⟩:=x;have hW:W.length≤9223372036854775807:=hf.1.1.1;have w:IntKind.i64.wrap ((W.length:Int)-1)=(W.length:Int)-1:=i64_in _ (by omega);dsimp only[entRR16,x123];simp only[↓hcsR16,entIn16,w,go_sem];try simp only[w,td,reduceCtorEq]
 have hno:∀h:rightC (W,L,R)=true→False,false=rightC (W,L,R):=fun h=>by
  symm;rw[←Bool.not_eq_true];exact h
 refine ⟨fun h=>hno fun q=>?_,?_⟩
 ·have q1:=(rightC_iff.1 q).1;dsimp only at q1;omega
 rintro ⟨⟨⟨h1,h2⟩,h3⟩,h4⟩;refine XW_for 1000 x123_0d [0] Nat (fun j=>[(4,.val Z1 (j:Int))]) (fun _=>[]) (fun j=>j≤W.length∧∀k,k<j→winB (W.getD k (0,0))=true) (fun j=>W.length-j) 0 ?_ ?_ ?_
 ·dsimp only[x123_0d];simp only[go_sem];try trivial
 ·exact ⟨Nat.zero_le _,fun k hk=>absurd hk (Nat.not_lt_zero _)⟩
 rintro j ⟨hj,hn⟩;by_cases hj':j<W.length
 ·have w2:IntKind.i64.wrap ((j:Int)+1)=((j+1:Nat):Int):=i64_in _ (by omega);have hji:(j:Int)<(W.length:Int):=by omega
  have hmem:=getD_mem2 (d:=((0,0):DWin)) hj';generalize hS:W.getD j (0,0)=x at hmem;obtain ⟨a,b⟩:=x;dsimp only[x123_0,x123_0d];simp only[↓hcsR16,entIn16,hj',hji,hS,w2,go_sem];try simp only[hj',hji,hS,w2,td,reduceCtorEq]
  have hwb:winB (a,b)=true↔in3 a 0 b=true∧b≤1048576:=by unfold winB in3;simp;omega
  refine ⟨fun h=>hno fun q=>?_,fun h=>⟨j+1,by omega,⟨hj',fun k hk=>?_⟩,rfl⟩⟩
  ·have q2:=(rightC_iff.1 q).2.1 _ hmem;dsimp only at q2;have:winB (a,b)=true:=by unfold winB;exact decide_eq_true q2
   have:=hwb.1 this;rcases h with h|h
   ·rw[h] at this;cases this.1
   ·omega
  ·by_cases c:k=j
   ·subst c;rw[hS];exact hwb.2 h
   ·exact hn k (by omega)
 have hW2:∀x∈W,winB x=true:=fun x hx=>by
  obtain ⟨k,hk,rfl⟩:=List.getElem_of_mem hx;have:=hn k (by omega);rwa [show W.getD k (0,0)=W[k] by simp[List.getD,hk]] at this
 have hji:¬(j:Int)<(W.length:Int):=by omega
 dsimp only[x123_0,x123_0d];simp only[↓hcsR16,entIn16,hj',hji,w,go_sem];try simp only[hj',hji,w,td,reduceCtorEq]
 refine XW_for 2000 x123_1d [0] Nat (fun j=>[(5,.val Z1 (j:Int))]) (fun _=>[]) (fun j=>j≤L.length∧∀k,k<j→legB (L.getD k (0,0))=true) (fun j=>L.length-j) 0 ?_ ?_ ?_
 ·dsimp only[x123_1d];simp only[go_sem];try trivial
 ·exact ⟨Nat.zero_le _,fun k hk=>absurd hk (Nat.not_lt_zero _)⟩
 rintro j ⟨hj,hn⟩;by_cases hj':j<L.length
 ·have w2:IntKind.i64.wrap ((j:Int)+1)=((j+1:Nat):Int):=i64_in _ (by omega);have hji:(j:Int)<(W.length:Int)-1:=by omega
  have hmem:=getD_mem2 (d:=((0,0):DLeg)) hj';generalize hS:L.getD j (0,0)=x at hmem;obtain ⟨a,b⟩:=x;dsimp only[x123_1,x123_1d];simp only[↓hcsR16,entIn16,hj',hji,hS,w,w2,go_sem];try simp only[hj',hji,hS,w,w2,td,reduceCtorEq]
  have hwb:legB (a,b)=true↔in3 a 0 b=true∧b≤1048576:=by unfold legB in3;simp;omega
  refine ⟨fun h=>hno fun q=>?_,fun h=>⟨j+1,by omega,⟨hj',fun k hk=>?_⟩,rfl⟩⟩
  ·have q2:=(rightC_iff.1 q).2.2.1 _ hmem;dsimp only at q2;have:legB (a,b)=true:=by unfold legB;exact decide_eq_true q2
   have:=hwb.1 this;rcases h with h|h
   ·rw[h] at this;cases this.1
   ·omega
  ·by_cases c:k=j
   ·subst c;rw[hS];exact hwb.2 h
   ·exact hn k (by omega)
 have hL2:∀x∈L,legB x=true:=fun x hx=>by
  obtain ⟨k,hk,rfl⟩:=List.getElem_of_mem hx;have:=hn k (by omega);rwa [show L.getD k (0,0)=L[k] by simp[List.getD,hk]] at this
 have hji:¬(j:Int)<(W.length:Int)-1:=by omega
 dsimp only[x123_1,x123_1d];simp only[↓hcsR16,entIn16,hj',hji,w,go_sem];try simp only[hj',hji,w,td,reduceCtorEq]
 refine XW_for 3000 x123_2d [0] Nat (fun j=>[(6,.val Z1 (j:Int))]) (fun _=>[]) (fun j=>j≤R.length∧∀k,k<j→rideB (W.length:Int) (R.getD k (0,0,0))=true) (fun j=>R.length-j) 0 ?_ ?_ ?_
 ·dsimp only[x123_2d];simp only[go_sem];try trivial
 ·exact ⟨Nat.zero_le _,fun k hk=>absurd hk (Nat.not_lt_zero _)⟩
 rintro j ⟨hj,hn⟩;by_cases hj':j<R.length
 ·have w2:IntKind.i64.wrap ((j:Int)+1)=((j+1:Nat):Int):=i64_in _ (by omega);have hmem:=getD_mem2 (d:=((0,0,0):DRide)) hj';generalize hS:R.getD j (0,0,0)=x at hmem;obtain ⟨a,b,d⟩:=x;dsimp only[x123_2,x123_2d];simp only[↓hcsR16,entIn16,hj',hS,w2,go_sem];try simp only[hj',hS,w2,td,reduceCtorEq]
  have hwb:rideB (W.length:Int) (a,b,d)=true↔((0≤a∧a<b)∧b<(W.length:Int))∧in3 d 0 1048576=true:=by unfold rideB in3;simp;omega
  refine ⟨fun h=>hno fun q=>?_,fun h=>⟨j+1,by omega,⟨hj',fun k hk=>?_⟩,rfl⟩⟩
  ·have q2:=(rightC_iff.1 q).2.2.2 _ hmem;dsimp only at q2;have:rideB (W.length:Int) (a,b,d)=true:=by unfold rideB;exact decide_eq_true q2
   have:=hwb.1 this;rcases h with h|h
   ·omega
   ·rw[h] at this;cases this.2
  ·by_cases c:k=j
   ·subst c;rw[hS];exact hwb.2 h
   ·exact hn k (by omega)
 have hR2:∀x∈R,rideB (W.length:Int) x=true:=fun x hx=>by
  obtain ⟨k,hk,rfl⟩:=List.getElem_of_mem hx;have:=hn k (by omega);rwa [show R.getD k (0,0,0)=R[k] by simp[List.getD,hk]] at this
 dsimp only[x123_2,x123_2d];simp only[↓hcsR16,entIn16,hj',go_sem];try simp only[hj',td,reduceCtorEq]
 symm;unfold rightC;rw[decide_eq_true (by dsimp only;omega),Bool.true_and,Bool.and_eq_true,Bool.and_eq_true];exact ⟨List.all_eq_true.2 hW2,List.all_eq_true.2 hL2,List.all_eq_true.2 hR2⟩
def entHg16:Ent:=⟨205,.cons Z18 (.cons Z1 (.cons Z1 .nil)),(.int .i64),false,none,fun x=>rightC x.1=true∧(0≤(x.2.1:Int)∧(x.2.1:Int)≤(x.2.2.1:Int))∧(x.2.2.1:Int)≤(x.1:DChain).2.1.length,fun x=>psF (x.1:DChain).2.1 (x.2.2.1:Int).toNat-psF (x.1:DChain).2.1 (x.2.1:Int).toNat⟩
def csH16:List Ent:=[] theorem hcsH16 (f:FuncId):findEnt csH16 f=findEnt [] f:=rfl
theorem conHg16:Con Tryz.prog entHg16:=by
 refine con_is (C:=csH16) x205 (by kernel_rfl) (by simp[csH16]) fun x hx hf=>?_;obtain ⟨⟨(W:List DWin),(L:List DLeg),(R:List DRide)⟩,(a:Int),(b:Int),_⟩:=x;obtain ⟨hr,⟨h1,h2⟩,h3⟩:=hx;have h1:0≤a:=h1;have h2:a≤b:=h2;have h3:b≤(L.length:Int):=h3;obtain ⟨a,rfl⟩:∃z:Nat,a=z:=⟨a.toNat,by omega⟩;obtain ⟨b,rfl⟩:∃z:Nat,b=z:=⟨b.toNat,by omega⟩;have hc:=(rightC_iff.1 hr).1;dsimp only at hc;have hps:=fun k=>psF_bd hr k;dsimp only at hps;dsimp only[entHg16,x205];simp only[↓hcsH16,go_sem];try simp only[td,reduceCtorEq]
 refine XW_for 1000 x205_0d [0] Nat (fun j=>[(8,.val Z1 ((a+j:Nat):Int)),(7,.val Z1 (psF L (a+j)-psF L a))]) (fun _=>[]) (fun j=>a+j≤b) (fun j=>b-a-j) 0 ?_ ?_ ?_
 ·dsimp only[x205_0d];simp only[go_sem];exact ⟨rfl,by rw[Nat.add_zero];exact (Int.sub_self _).symm⟩
 ·show a+0≤b;omega
 intro j hj;have w2:IntKind.i64.wrap (((a+j:Nat):Int)+1)=((a+(j+1):Nat):Int):=(i64_in _ (by omega)).trans (by omega);dsimp only[x205_0,x205_0d];simp only[↓hcsH16,w2,go_sem];try simp only[w2,td,reduceCtorEq]
 refine ⟨fun hj'=>⟨by omega,j+1,by omega,by omega,rfl,?_⟩,fun hj'=>by rw[show a+j=b by omega]⟩;have h4:=right_leg hr (k:=a+j) (by dsimp only;omega);dsimp only at h4;have h5:=hps (a+j);have h6:=hps a;rw[i64_in (psF L (a+j)-psF L a+(L.getD (a+j) (0,0)).2) (by omega)];show _=psF L (a+j)+(L.getD (a+j) (0,0)).2-psF L a;omega
def entPl16:Ent:=⟨180,.cons Z18 (.cons Z5 (.cons Z5 .nil)),Z5,false,none,fun x=>((x.1:DChain).1.length=List.length (α:=Int) x.2.2.1+1∧List.length (α:=Int) x.2.1=(x.1:DChain).1.length∧(x.1:DChain).1.length≤1000)∧Within 0 2097152 x.2.1∧Within 0 1048576 x.2.2.1,fun x=>playF x.2.1 x.2.2.1⟩
def csP16:List Ent:=[] theorem hcsP16 (f:FuncId):findEnt csP16 f=findEnt [] f:=rfl
theorem conPl16:Con Tryz.prog entPl16:=by
 refine con_is (C:=csP16) x180 (by kernel_rfl) (by simp[csP16]) fun x hx hf=>?_;obtain ⟨⟨(W:List DWin),(L:List DLeg),(R:List DRide)⟩,(g:List Int),(t:List Int),_⟩:=x;obtain ⟨⟨h1,h2,h3⟩,hg,ht⟩:=hx;have hg:Within 0 2097152 g:=hg;have ht:Within 0 1048576 t:=ht;have h1:W.length=t.length+1:=h1;have h2:g.length=W.length:=h2;have h3:W.length≤1000:=h3;have hb:=tmF_bd hg ht;dsimp only[entPl16,x180];simp only[↓hcsP16,go_sem];try simp only[td,reduceCtorEq]
 refine XW_for 1000 x180_0d [0] Nat (fun j=>[(9,.val Z1 (j:Int)),(8,.val Z1 (if j=0 then 0 else tmF g t (j-1))),(7,.own 7)]) (fun j=>[(7,.row 3 (.int .i64) ((List.range j).map (tmF g t)))]) (fun j=>j≤W.length) (fun j=>W.length-j) 0 ?_ ?_ ?_
 ·dsimp only[x180_0d];simp only[go_sem];exact ⟨rfl,rfl⟩
 ·exact Nat.zero_le _
 intro j hj;have hl:((List.range j).map (tmF g t)).length=j:=by rw[List.length_map,List.length_range]
 by_cases hj':j<W.length
 ·have w2:IntKind.i64.wrap ((j:Int)+1)=((j+1:Nat):Int):=i64_in _ (by omega);have hji:(j:Int)<(W.length:Int):=by omega
  cases j with
  |zero=>
   have n0:¬((0:Nat):Int)>0:=by decide
   dsimp only[x180_0,x180_0d];simp only[↓hcsP16,hj',hji,hl,w2,n0,if_true,go_sem];try simp only[hj',hji,hl,w2,n0,if_true,td,reduceCtorEq]
   exact ⟨by omega,1,by omega,by omega,⟨rfl,rfl⟩,rfl⟩
  |succ q=>
   have n0:((q+1:Nat):Int)>0:=by omega
   have n1:¬q+1=0:=by omega
   have w3:IntKind.i64.wrap (((q+1:Nat):Int)-1)=(q:Int):=(i64_in _ (by omega)).trans (by omega);have hbj:=hb q;have htj:=ht.getD (Int.le_refl _) (by omega) q;have w4:IntKind.i64.wrap (tmF g t q+t.getD q 0)=tmF g t q+t.getD q 0:=i64_in _ (by omega);dsimp only[x180_0,x180_0d];simp only[↓hcsP16,hj',hji,hl,w2,w3,w4,n0,n1,Nat.add_sub_cancel,go_sem];try simp only[hj',hji,hl,w2,w3,w4,n0,n1,Nat.add_sub_cancel,td,reduceCtorEq]
   exact ⟨by omega,by omega,by omega,q+2,by omega,by omega,⟨rfl,rfl⟩,range_snoc (tmF g t) (q+1)⟩
 ·have hji:¬(j:Int)<(W.length:Int):=by omega
  dsimp only[x180_0,x180_0d];simp only[↓hcsP16,hj',hji,go_sem];try simp only[hj',hji,td,reduceCtorEq]
  unfold playF;rw[show j=t.length+1 by omega]
def entHi16:Ent:=⟨181,.cons Z18 .nil,Z5,false,none,fun x=>(x.1:DChain).2.1.length≤1000,fun x=>highsF (x.1:DChain).2.1⟩
def csHi6:List Ent:=[] theorem hcsHi6 (f:FuncId):findEnt csHi6 f=findEnt [] f:=rfl
theorem conHi16:Con Tryz.prog entHi16:=by
 refine con_is (C:=csHi6) x181 (by kernel_rfl) (by simp[csHi6]) fun x hx hf=>?_;obtain ⟨⟨(W:List DWin),(L:List DLeg),(R:List DRide)⟩,_⟩:=x;have hL:L.length≤1000:=hx;dsimp only[entHi16,x181];simp only[↓hcsHi6,go_sem];try simp only[td,reduceCtorEq]
 refine XW_for 1000 x181_0d [0] Nat (fun j=>[(4,.val Z1 (j:Int)),(3,.own 7)]) (fun j=>[(7,.row 3 (.int .i64) ((highsF L).take j))]) (fun j=>j≤L.length) (fun j=>L.length-j) 0 ?_ ?_ ?_
 ·dsimp only[x181_0d];simp only[go_sem];try trivial
 ·exact Nat.zero_le _
 intro j hj;have w2:j<L.length→IntKind.i64.wrap ((j:Int)+1)=((j+1:Nat):Int):=fun h=>i64_in _ (by omega);have hs:j<L.length→(highsF L).take j++[(L.getD j (0,0)).2]=(highsF L).take (j+1):=fun h=>by
  rw[List.take_succ_eq_append_getElem (by rw[highs_len];exact h),←highs_getD];simp[List.getD,highs_len,h]
 have hlt:((highsF L).take j).length=j:=by rw[List.length_take,highs_len];omega
 dsimp only[x181_0,x181_0d];simp only[↓hcsHi6,hlt,go_sem];try simp only[hlt,td,reduceCtorEq]
 refine ⟨fun hj'=>⟨⟨hj',by omega⟩,j+1,by omega,hj',w2 hj',hs hj'⟩,fun hj'=>?_⟩;exact List.take_of_length_le (by rw[highs_len];omega)
def fit16 (c:DChain) (g:List Int):Bool:=(g.all fun n=>in3 n 0 2097152)&&decide (g.length=c.1.length)
theorem fit16_iff {c:DChain} {g:List Int} (h:rightC c=true):fit16 c g=true↔fitsG c g=true:=by
 rw[fitsG_iff];unfold fit16 Within;simp only[Bool.and_eq_true,decide_eq_true_eq,List.all_eq_true];unfold in3;simp only[decide_eq_true_eq];exact ⟨fun q=>⟨h,q.2,q.1⟩,fun q=>⟨q.2.2,q.2.1⟩⟩
def entFt16:Ent:=⟨179,.cons Z18 (.cons Z5 .nil),.bool,false,none,fun _=>True,fun x=>fit16 x.1 x.2.1⟩
def csF16:List Ent:=[entIn16] theorem hcsF16 (f:FuncId):findEnt csF16 f=findEnt [entIn16] f:=rfl
theorem conFt16:Con Tryz.prog entFt16:=by
 refine con_is (C:=csF16) x179 (by kernel_rfl) (by simp[csF16,conIn16]) fun x hx hf=>?_;obtain ⟨⟨(W:List DWin),(L:List DLeg),(R:List DRide)⟩,(g:List Int),_⟩:=x;have hgl:g.length≤9223372036854775807:=hf.2.1.1;dsimp only[entFt16,x179];simp only[↓hcsF16,entIn16,go_sem];try simp only[td,reduceCtorEq]
 refine XW_for 1000 x179_0d [0] Nat (fun j=>[(5,.val Z1 (j:Int))]) (fun _=>[]) (fun j=>j≤g.length∧∀k,k<j→in3 (g.getD k 0) 0 2097152=true) (fun j=>g.length-j) 0 ?_ ?_ ?_
 ·dsimp only[x179_0d];simp only[go_sem];try trivial
 ·exact ⟨Nat.zero_le _,fun k hk=>absurd hk (Nat.not_lt_zero _)⟩
 rintro j ⟨hj,hn⟩;have w2:j<g.length→IntKind.i64.wrap ((j:Int)+1)=((j+1:Nat):Int):=fun h=>i64_in _ (by omega);dsimp only[x179_0,x179_0d];simp only[↓hcsF16,entIn16,go_sem];try simp only[td,reduceCtorEq]
 refine ⟨fun hj'=>⟨hj',fun q=>?_,fun q=>⟨j+1,by omega,⟨hj',fun k hk=>?_⟩,w2 hj'⟩⟩,fun hj'=>?_⟩
 ·symm;rw[←Bool.not_eq_true];intro z;unfold fit16 at z;rw[Bool.and_eq_true,List.all_eq_true] at z;have:=z.1 _ (getD_mem2 (d:=(0:Int)) hj');rw[q] at this;cases this
 ·by_cases c:k=j
  ·subst c;exact q
  ·exact hn k (by omega)
 ·unfold fit16;have:(g.all fun n=>in3 n 0 2097152)=true:=List.all_eq_true.2 fun x hx=>by
   obtain ⟨k,hk,rfl⟩:=List.getElem_of_mem hx;have:=hn k (by omega);rwa [show g.getD k 0=g[k] by simp[List.getD,hk]] at this
  rw[this,Bool.true_and,Bool.eq_iff_iff];simp;try omega
def entRun16:Ent:=⟨174,.cons Z18 (.cons Z5 (.cons Z5 .nil)),.cons Z5 (.cons Z1 .nil),true,none,fun _=>True,fun x=>((rnF x.1 x.2.1 x.2.2.1).1,(rnF x.1 x.2.1 x.2.2.1).2,())⟩
def csRu6:List Ent:=[entIn16,entRR16,entFt16,entPl16] theorem hcsRu6 (f:FuncId):findEnt csRu6 f=findEnt [entIn16,entRR16,entFt16,entPl16] f:=rfl
theorem conRun16:Con Tryz.prog entRun16:=by
 refine con_is (C:=csRu6) x174 (by kernel_rfl) (by simp[csRu6,conIn16,conRR16,conFt16,conPl16]) fun x hx hf=>?_;obtain ⟨⟨(W:List DWin),(L:List DLeg),(R:List DRide)⟩,(g:List Int),(t:List Int),_⟩:=x;dsimp only[entRun16,x174];simp only[↓hcsRu6,entIn16,entRR16,entFt16,entPl16,go_sem];try simp only[td,reduceCtorEq]
 have hno:(rightC (W,L,R)=false∨fit16 (W,L,R) g=false)∨¬t.length=L.length→rnF (W,L,R) g t=([],1):=fun h=>by
  unfold rnF;rw[if_neg];rintro ⟨q1,q2⟩;have q0:=(fitsG_iff.1 q1).1;rcases h with (h|h)|h
  ·rw[h] at q0;cases q0
  ·rw[(fit16_iff q0).2 q1] at h;cases h
  ·exact h (tookB_iff.1 q2).1
 refine ⟨fun h=>by rw[hno h],?_⟩;rintro ⟨⟨hr,hg0⟩,ht⟩;have hg:=(fit16_iff hr).1 hg0;obtain ⟨_,hgl,hgw⟩:=fitsG_iff.1 hg;have hc:=(rightC_iff.1 hr).1;dsimp only at hgl hc;refine XW_for 1000 x174_0d [0] Nat (fun j=>[(8,.val Z1 (j:Int))]) (fun _=>[]) (fun j=>j≤t.length∧∀k,k<j→(L.getD k (0,0)).1≤t.getD k 0∧t.getD k 0≤(L.getD k (0,0)).2) (fun j=>t.length-j) 0 ?_ ?_ ?_
 ·dsimp only[x174_0d];simp only[go_sem];try trivial
 ·exact ⟨Nat.zero_le _,fun k hk=>absurd hk (Nat.not_lt_zero _)⟩
 rintro j ⟨hj,hn⟩;have w2:j<t.length→IntKind.i64.wrap ((j:Int)+1)=((j+1:Nat):Int):=fun h=>i64_in _ (by omega);dsimp only[x174_0,x174_0d];simp only[↓hcsRu6,entIn16,entRR16,entFt16,entPl16,go_sem];try simp only[td,reduceCtorEq]
 refine ⟨fun hj'=>⟨⟨hj',by omega⟩,fun q=>?_,fun q=>⟨j+1,by omega,⟨hj',fun k hk=>?_⟩,w2 hj'⟩⟩,fun hj'=>?_⟩
 ·unfold rnF;rw[if_neg];rintro ⟨_,q2⟩;have:=(tookB_iff.1 q2).2 j (by dsimp only;omega);dsimp only at this;have z:in3 (t.getD j 0) (L.getD j (0,0)).1 (L.getD j (0,0)).2=true:=decide_eq_true this;rw[q] at z;cases z
 ·by_cases c:k=j
  ·subst c;exact of_decide_eq_true q
  ·exact hn k (by omega)
 ·have htb:tookB L t=true:=tookB_iff.2 ⟨ht,fun k hk=>hn k (by omega)⟩;refine ⟨⟨⟨by omega,hgl,by omega⟩,hgw,took_within hr htb⟩,?_⟩;unfold rnF;rw[if_pos ⟨hg,htb⟩]
def entWst16:Ent:=⟨129,.cons Z18 (.cons Z5 .nil),.cons Z5 (.cons Z1 .nil),true,none,fun _=>True,fun x=>((worstF x.1 x.2.1).1,(worstF x.1 x.2.1).2,())⟩
def csWs6:List Ent:=[entRR16,entFt16,entPl16,entHi16] theorem hcsWs6 (f:FuncId):findEnt csWs6 f=findEnt [entRR16,entFt16,entPl16,entHi16] f:=rfl
theorem conWst16:Con Tryz.prog entWst16:=by
 refine con_is (C:=csWs6) x129 (by kernel_rfl) (by simp[csWs6,conRR16,conFt16,conPl16,conHi16]) fun x hx hf=>?_;obtain ⟨⟨(W:List DWin),(L:List DLeg),(R:List DRide)⟩,(g:List Int),_⟩:=x;dsimp only[entWst16,x129];simp only[↓hcsWs6,entRR16,entFt16,entPl16,entHi16,go_sem];try simp only[td,reduceCtorEq]
 refine ⟨fun h=>?_,?_⟩
 ·unfold worstF;rw[if_neg];intro q1;have q0:=(fitsG_iff.1 q1).1;rcases h with h|h
  ·rw[h] at q0;cases q0
  ·rw[(fit16_iff q0).2 q1] at h;cases h
 ·rintro ⟨hr,hg0⟩;have hg:=(fit16_iff hr).1 hg0;obtain ⟨_,hgl,hgw⟩:=fitsG_iff.1 hg;have hc:=(rightC_iff.1 hr).1;dsimp only at hgl hc;refine ⟨⟨by omega,⟨by rw[highs_len];omega,hgl,by omega⟩,hgw,highs_within hr⟩,?_⟩;unfold worstF;rw[if_pos hg]
def entKp16:Ent:=⟨175,.cons Z18 (.cons Z5 .nil),.bool,false,none,fun _=>True,fun x=>keepsF x.1 x.2.1⟩
def csK16:List Ent:=[entIn16,entRR16] theorem hcsK16 (f:FuncId):findEnt csK16 f=findEnt [entIn16,entRR16] f:=rfl
theorem conKp16:Con Tryz.prog entKp16:=by
 refine con_is (C:=csK16) x175 (by kernel_rfl) (by simp[csK16,conIn16,conRR16]) fun x hx hf=>?_;obtain ⟨⟨(W:List DWin),(L:List DLeg),(R:List DRide)⟩,(t:List Int),_⟩:=x;dsimp only[entKp16,x175];simp only[↓hcsK16,entIn16,entRR16,go_sem];try simp only[td,reduceCtorEq]
 have hW:W.length≤9223372036854775807:=hf.1.1.1;have hno:(keepsF (W,L,R) t=true→False)→false=keepsF (W,L,R) t:=fun h=>by
  symm;rw[←Bool.not_eq_true];exact h
 refine ⟨fun h=>hno fun q=>?_,?_⟩
 ·obtain ⟨q1,q2,_⟩:=keepsF_iff.1 q;rcases h with h|h
  ·rw[h] at q1;cases q1
  ·exact h q2
 rintro ⟨hr,hl⟩;have hc:=(rightC_iff.1 hr).1;dsimp only at hc;refine XW_for 1000 x175_0d [0] Nat (fun j=>[(5,.val Z1 (j:Int))]) (fun _=>[]) (fun j=>j≤t.length∧∀k,k<j→(W.getD k (0,0)).1≤t.getD k 0∧t.getD k 0≤(W.getD k (0,0)).2) (fun j=>t.length-j) 0 ?_ ?_ ?_
 ·dsimp only[x175_0d];simp only[go_sem];try trivial
 ·exact ⟨Nat.zero_le _,fun k hk=>absurd hk (Nat.not_lt_zero _)⟩
 rintro j ⟨hj,hn⟩;have w2:j<t.length→IntKind.i64.wrap ((j:Int)+1)=((j+1:Nat):Int):=fun h=>i64_in _ (by omega);dsimp only[x175_0,x175_0d];simp only[↓hcsK16,entIn16,entRR16,go_sem];try simp only[td,reduceCtorEq]
 have ht0:(¬j<t.length)→∀k,0≤t.getD k 0∧t.getD k 0≤1048576:=fun hj' k=>by
  by_cases c:k<W.length
  ·have h1:=hn k (by omega);have h2:=right_win hr (k:=k) c;dsimp only at h2;omega
  ·rw[List.getD_eq_getElem?_getD,List.getElem?_eq_none (by omega)];exact ⟨Int.le_refl _,by show (0:Int)≤1048576;omega⟩
 refine ⟨fun hj'=>⟨⟨hj',by omega⟩,fun q=>?_,fun q=>⟨j+1,by omega,⟨hj',fun k hk=>?_⟩,w2 hj'⟩⟩,fun hj'=>?_⟩
 ·refine hno fun q2=>?_;have:=(keepsF_iff.1 q2).2.2.1 j (by dsimp only;omega);dsimp only at this;have z:in3 (t.getD j 0) (W.getD j (0,0)).1 (W.getD j (0,0)).2=true:=decide_eq_true this;rw[q] at z;cases z
 ·by_cases c:k=j
  ·subst c;exact of_decide_eq_true q
  ·exact hn k (by omega)
 have ht0:=ht0 hj';refine XW_for 2000 x175_1d [0] Nat (fun i=>[(6,.val Z1 (i:Int))]) (fun _=>[]) (fun i=>i≤R.length∧∀k,k<i→t.getD (R.getD k (0,0,0)).2.1.toNat 0-t.getD (R.getD k (0,0,0)).1.toNat 0≤(R.getD k (0,0,0)).2.2) (fun i=>R.length-i) 0 ?_ ?_ ?_
 ·dsimp only[x175_1d];simp only[go_sem];try trivial
 ·exact ⟨Nat.zero_le _,fun k hk=>absurd hk (Nat.not_lt_zero _)⟩
 rintro i ⟨hi,hm⟩;have w3:i<R.length→IntKind.i64.wrap ((i:Int)+1)=((i+1:Nat):Int):=fun h=>by
  have:=hc.2.2.2;exact i64_in _ (by omega)
 dsimp only[x175_1,x175_1d];simp only[↓hcsK16,entIn16,entRR16,go_sem];try simp only[td,reduceCtorEq]
 refine ⟨fun hi'=>?_,fun hi'=>?_⟩
 ·have hrd:=right_ride hr (k:=i) hi';dsimp only at hrd;have e1:=ht0 (R.getD i (0,0,0)).2.1.toNat;have e2:=ht0 (R.getD i (0,0,0)).1.toNat;have hw:IntKind.i64.wrap (t.getD (R.getD i (0,0,0)).2.1.toNat 0-t.getD (R.getD i (0,0,0)).1.toNat 0)=t.getD (R.getD i (0,0,0)).2.1.toNat 0-t.getD (R.getD i (0,0,0)).1.toNat 0:=i64_in _ (by omega);rw[hw];refine ⟨hi',⟨⟨by omega,by omega⟩,by omega,by omega⟩,fun q=>hno fun q2=>?_,fun q=>⟨i+1,by omega,⟨hi',fun k hk=>?_⟩,w3 hi'⟩⟩
  ·have:=(keepsF_iff.1 q2).2.2.2 _ (getD_mem2 (d:=(0,0,0)) hi');dsimp only at this;omega
  ·by_cases c:k=i
   ·subst c;exact q
   ·exact hm k (by omega)
 ·symm;refine keepsF_iff.2 ⟨hr,hl,fun k hk=>hn k (by dsimp only at hk;omega),fun r hrm=>?_⟩;obtain ⟨k,hk,rfl⟩:=List.getElem_of_mem hrm;have h1:=hm k (by dsimp only at hk;omega);have:R.getD k (0,0,0)=R[k]:=by simp[List.getD,hk]
  rw[this] at h1;exact h1
def entInt16:Ent:=⟨60,.cons Z5 (.cons Z5 .nil),.bool,false,none,fun _=>True,fun x=>decide ((x.1:List Int)=x.2.1)⟩
def csI16:List Ent:=[] theorem hcsI16 (f:FuncId):findEnt csI16 f=findEnt [] f:=rfl
theorem conInt16:Con Tryz.prog entInt16:=by
 refine con_is (C:=csI16) x60 (by kernel_rfl) (by simp[csI16]) fun x hx hf=>?_;obtain ⟨(a:List Int),(b:List Int),_⟩:=x;have hal:a.length≤9223372036854775807:=hf.1.1;dsimp only[entInt16,x60];simp only[↓hcsI16,go_sem];try simp only[td,reduceCtorEq]
 refine ⟨fun h=>(decide_eq_false fun e=>h (by rw[e])).symm,fun h=>?_⟩;refine XW_for 1000 x60_0d [] Nat (fun k=>[(5,.val Z1 (k:Int))]) (fun _=>[]) (fun k=>k≤a.length∧∀j,j<k→a.getD j 0=b.getD j 0) (fun k=>a.length-k) 0 ?_ ?_ ?_
 ·dsimp only[x60_0d];simp only[go_sem];rfl
 ·exact ⟨by omega,fun j hj=>by omega⟩
 ·intro k hk;dsimp only[x60_0,x60_0d];simp only[go_sem];by_cases hkl:k<a.length
  ·simp only[hkl,←h,td,reduceCtorEq];refine ⟨fun e=>(decide_eq_false fun q=>e (by rw[q])).symm,fun e=>⟨k+1,by omega,⟨by omega,fun j hj=>?_⟩,i64_in _ (by omega)⟩⟩;rcases Nat.lt_succ_iff_lt_or_eq.1 hj with h'|rfl
   ·exact hk.2 j h'
   ·exact e
  ·simp only[hkl,td,reduceCtorEq];refine (decide_eq_true (List.ext_getElem h fun j h1 h2=>?_)).symm;have:=hk.2 j (by omega);simpa [List.getD,h1,h2] using this
end T
end Go.Proofs.YtpocfbfmjippnaaGreat
end
