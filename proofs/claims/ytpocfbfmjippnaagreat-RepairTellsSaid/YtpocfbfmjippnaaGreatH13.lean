/- Parts of the proof of the law; no condition. -/
import Derived.Test.YtpocfbfmjippnaaGreatH11
set_option linter.all false
section
namespace Go.Proofs.YtpocfbfmjippnaaGreat
open Go.RowKit Go.IntWalk
namespace T
def entLong:Ent:=⟨162,.cons Z1 .nil,.bool,false,none,fun _=>True,fun x=>longB x.1⟩
def csLng:List Ent:=[] theorem hcsLng (f:FuncId):findEnt csLng f=findEnt [] f:=rfl
theorem conLong:Con Tryz.prog entLong:=by
 refine con_is (C:=csLng) x162 (by kernel_rfl) (by simp[csLng]) fun x hx hf=>?_;obtain ⟨(n:Int),_⟩:=x;dsimp only[entLong,x162];simp only[↓hcsLng,go_sem];try simp only[td,reduceCtorEq]
 unfold longB;rw[Bool.eq_iff_iff];simp
def entLg19:Ent:=⟨163,.cons Z8 .nil,.bool,false,none,fun _=>True,fun x=>legB x.1⟩
def csLg9:List Ent:=[] theorem hcsLg9 (f:FuncId):findEnt csLg9 f=findEnt [] f:=rfl
theorem conLg19:Con Tryz.prog entLg19:=by
 refine con_is (C:=csLg9) x163 (by kernel_rfl) (by simp[csLg9]) fun x hx hf=>?_;obtain ⟨⟨(a:Int),(b:Int)⟩,_⟩:=x;dsimp only[entLg19,x163];simp only[↓hcsLg9,go_sem];try simp only[td,reduceCtorEq]
 unfold legB;rw[Bool.eq_iff_iff];simp;try omega
def entRi19:Ent:=⟨118,.cons Z3 (.cons Z9 (.cons Z9 .nil)),.bool,false,none,fun _=>True,fun x=>rightK x.1 x.2.1 x.2.2.1⟩
def csRi9:List Ent:=[entLong,entLg19] theorem hcsRi9 (f:FuncId):findEnt csRi9 f=findEnt [entLong,entLg19] f:=rfl
theorem conRi19:Con Tryz.prog entRi19:=by
 refine con_is (C:=csRi9) x118 (by kernel_rfl) (by simp[csRi9,conLong,conLg19]) fun x hx hf=>?_;obtain ⟨⟨(D:Int),(B:Int),(K:Int)⟩,(l:List DLeg),(w:List DLeg),_⟩:=x;dsimp only[entRi19,x118];simp only[↓hcsRi9,entLong,entLg19,go_sem];try simp only[td,reduceCtorEq]
 have hll:l.length≤9223372036854775807:=hf.2.1.1;have hno:(rightK (D,B,K) l w=true→False)→false=rightK (D,B,K) l w:=fun h=>by
  symm;rw[←Bool.not_eq_true];exact h
 refine ⟨fun h=>hno fun q=>?_,?_⟩
 ·obtain ⟨⟨q1,q2,q3⟩,⟨q4,q5⟩,_⟩:=rightK_iff.1 q;dsimp only at q1 q2 q3;rcases h with (((h|h)|h)|h)|h
  ·rw[h] at q1;cases q1
  ·rw[h] at q2;cases q2
  ·rw[h] at q3;cases q3
  ·omega
  ·exact h q5
 rintro ⟨⟨⟨⟨h1,h2⟩,h3⟩,h4⟩,h5⟩;refine XW_for 1000 x118_0d [] Nat (fun j=>[(7,.val Z1 (j:Int))]) (fun _=>[]) (fun j=>j≤l.length∧∀k,k<j→legB (l.getD k (0,0))=true∧legB (w.getD k (0,0))=true) (fun j=>l.length-j) 0 ?_ ?_ ?_
 ·dsimp only[x118_0d];simp only[go_sem];try trivial
 ·exact ⟨Nat.zero_le _,fun k hk=>absurd hk (Nat.not_lt_zero _)⟩
 rintro j ⟨hj,hn⟩;have w2:j<l.length→IntKind.i64.wrap ((j:Int)+1)=((j+1:Nat):Int):=fun h=>i64_in _ (by omega);dsimp only[x118_0,x118_0d];simp only[↓hcsRi9,entLong,entLg19,go_sem];try simp only[td,reduceCtorEq]
 refine ⟨fun hj'=>⟨⟨hj',fun q=>⟨q,by omega⟩⟩,fun q=>hno fun z=>?_,fun q=>⟨j+1,by omega,⟨hj',fun k hk=>?_⟩,w2 hj'⟩⟩,fun hj'=>?_⟩
 ·obtain ⟨_,_,q1,q2⟩:=rightK_iff.1 z;rcases q with q|q
  ·rw[q1 _ (getD_mem2 (d:=(0,0)) hj')] at q;cases q
  ·rw[q2 _ (getD_mem2 (d:=(0,0)) (by omega))] at q;cases q
 ·by_cases c:k=j
  ·subst c;exact q
  ·exact hn k (by omega)
 ·symm;refine rightK_iff.2 ⟨⟨h1,h2,h3⟩,⟨by omega,h5⟩,fun x hx=>?_,fun x hx=>?_⟩
  ·obtain ⟨k,hk,rfl⟩:=List.getElem_of_mem hx;have:=(hn k (by omega)).1;rwa [show l.getD k (0,0)=l[k] by simp[List.getD,hk]] at this
  ·obtain ⟨k,hk,rfl⟩:=List.getElem_of_mem hx;have:=(hn k (by omega)).2;rwa [show w.getD k (0,0)=w[k] by simp[List.getD,hk]] at this
def entHs19:Ent:=⟨173,.cons Z9 .nil,Z5,false,none,fun x=>List.length (α:=DLeg) x.1≤1000,fun x=>highsF x.1⟩
def csHs9:List Ent:=[] theorem hcsHs9 (f:FuncId):findEnt csHs9 f=findEnt [] f:=rfl
theorem conHs19:Con Tryz.prog entHs19:=by
 refine con_is (C:=csHs9) x173 (by kernel_rfl) (by simp[csHs9]) fun x hx hf=>?_;obtain ⟨(L:List DLeg),_⟩:=x;have hL:L.length≤1000:=hx;dsimp only[entHs19,x173];simp only[↓hcsHs9,go_sem];try simp only[td,reduceCtorEq]
 refine XW_for 1000 x173_0d [0] Nat (fun j=>[(4,.val Z1 (j:Int)),(3,.own 7)]) (fun j=>[(7,.row 3 (.int .i64) ((highsF L).take j))]) (fun j=>j≤L.length) (fun j=>L.length-j) 0 ?_ ?_ ?_
 ·dsimp only[x173_0d];simp only[go_sem];try trivial
 ·exact Nat.zero_le _
 intro j hj;have w2:j<L.length→IntKind.i64.wrap ((j:Int)+1)=((j+1:Nat):Int):=fun h=>i64_in _ (by omega);have hs:j<L.length→(highsF L).take j++[(L.getD j (0,0)).2]=(highsF L).take (j+1):=fun h=>by
  rw[List.take_succ_eq_append_getElem (by rw[highs_len];exact h),←highs_getD];simp[List.getD,highs_len,h]
 have hlt:((highsF L).take j).length=j:=by rw[List.length_take,highs_len];omega
 dsimp only[x173_0,x173_0d];simp only[↓hcsHs9,hlt,go_sem];try simp only[hlt,td,reduceCtorEq]
 refine ⟨fun hj'=>⟨⟨hj',by omega⟩,j+1,by omega,hj',w2 hj',hs hj'⟩,fun hj'=>?_⟩;exact List.take_of_length_le (by rw[highs_len];omega)
def entLs19:Ent:=⟨172,.cons Z9 .nil,Z5,false,none,fun x=>List.length (α:=DLeg) x.1≤1000,fun x=>lowsF x.1⟩
def csLs9:List Ent:=[] theorem hcsLs9 (f:FuncId):findEnt csLs9 f=findEnt [] f:=rfl
theorem conLs19:Con Tryz.prog entLs19:=by
 refine con_is (C:=csLs9) x172 (by kernel_rfl) (by simp[csLs9]) fun x hx hf=>?_;obtain ⟨(L:List DLeg),_⟩:=x;have hL:L.length≤1000:=hx;dsimp only[entLs19,x172];simp only[↓hcsLs9,go_sem];try simp only[td,reduceCtorEq]
 refine XW_for 1000 x172_0d [0] Nat (fun j=>[(4,.val Z1 (j:Int)),(3,.own 7)]) (fun j=>[(7,.row 3 (.int .i64) ((lowsF L).take j))]) (fun j=>j≤L.length) (fun j=>L.length-j) 0 ?_ ?_ ?_
 ·dsimp only[x172_0d];simp only[go_sem];try trivial
 ·exact Nat.zero_le _
 intro j hj;have w2:j<L.length→IntKind.i64.wrap ((j:Int)+1)=((j+1:Nat):Int):=fun h=>i64_in _ (by omega);have hs:j<L.length→(lowsF L).take j++[(L.getD j (0,0)).1]=(lowsF L).take (j+1):=fun h=>by
  rw[List.take_succ_eq_append_getElem (by rw[lows_len];exact h),←lows_getD];simp[List.getD,lows_len,h]
 have hlt:((lowsF L).take j).length=j:=by rw[List.length_take,lows_len];omega
 dsimp only[x172_0,x172_0d];simp only[↓hcsLs9,hlt,go_sem];try simp only[hlt,td,reduceCtorEq]
 refine ⟨fun hj'=>⟨⟨hj',by omega⟩,j+1,by omega,hj',w2 hj',hs hj'⟩,fun hj'=>?_⟩;exact List.take_of_length_le (by rw[lows_len];omega)
def entDr19:Ent:=⟨176,.cons Z1 (.cons Z5 (.cons Z5 (.cons Z1 .nil))),(.int .i64),false,none,fun x=>((0≤(x.2.2.2.1:Int)∧(x.2.2.2.1:Int)<List.length (α:=Int) x.2.1)∧List.length (α:=Int) x.2.2.1=List.length (α:=Int) x.2.1∧List.length (α:=Int) x.2.1≤1000)∧Within 0 1048576 x.2.1,fun x=>drvF x.1 x.2.1 x.2.2.1 ((x.2.2.2.1:Int).toNat+1)⟩
def csDr9:List Ent:=[] theorem hcsDr9 (f:FuncId):findEnt csDr9 f=findEnt [] f:=rfl
theorem conDr19:Con Tryz.prog entDr19:=by
 refine con_is (C:=csDr9) x176 (by kernel_rfl) (by simp[csDr9]) fun x hx hf=>?_;obtain ⟨(B:Int),(l:List Int),(w:List Int),(a:Int),_⟩:=x;obtain ⟨⟨⟨h1,h2⟩,h3,h4⟩,hl⟩:=hx;replace h1:0≤a:=h1;replace h2:a<(l.length:Int):=h2;replace h3:w.length=l.length:=h3;replace h4:l.length≤1000:=h4;replace hl:Within 0 1048576 l:=hl;obtain ⟨a,rfl⟩:∃z:Nat,a=z:=⟨a.toNat,by omega⟩;have hd:=fun j=>drv_bd (rest:=B) (w:=w) hl j;dsimp only[entDr19,x176];simp only[↓hcsDr9,go_sem];try simp only[td,reduceCtorEq]
 refine XW_for 1000 x176_0d [] Nat (fun p=>[(10,.val Z1 ((p:Int)-1)),(9,.val Z1 (drvF B l w (a+1)-drvF B l w p))]) (fun _=>[]) (fun p=>p≤a+1∧drvF B l w p≤drvF B l w (a+1)) (fun p=>p) (a+1) ?_ ?_ ?_
 ·dsimp only[x176_0d];simp only[go_sem];exact ⟨by show (a:Int)=((a+1:Nat):Int)-1;omega,(Int.sub_self _).symm⟩
 ·exact ⟨Nat.le_refl _,Int.le_refl _⟩
 rintro p ⟨hp,hle⟩;cases p with
 |zero=>
  have e10:¬(((0:Nat):Int)-1)≥0:=by decide
  dsimp only[x176_0,x176_0d];simp only[↓hcsDr9,e10,go_sem];try simp only[e10,td,reduceCtorEq]
  show drvF B l w (a+1)-0=_;rw[Int.sub_zero]
 |succ k=>
  have e9:((k+1:Nat):Int)-1=(k:Int):=by omega
  have e10:(k:Int)≥0:=by omega
  dsimp only[x176_0,x176_0d];simp only[↓hcsDr9,e9,e10,go_sem];try simp only[e9,e10,td,reduceCtorEq]
  have hlk:=hl.getD (Int.le_refl _) (by omega) k;have hdk:=hd (k+1);have hdk0:=hd k;have hda:=hd (a+1);have ed:drvF B l w (k+1)=(if w.getD k 0≥B then 0 else drvF B l w k)+l.getD k 0:=rfl;have w3:IntKind.i64.wrap (drvF B l w (a+1)-drvF B l w (k+1)+l.getD k 0)=drvF B l w (a+1)-drvF B l w (k+1)+l.getD k 0:=i64_in _ (by omega);rw[w3];refine ⟨by omega,by omega,fun h=>?_,fun h=>⟨k,by omega,⟨by omega,?_⟩,i64_in _ (by omega),?_⟩⟩
  ·rw[if_pos h] at ed;show drvF B l w (a+1)-drvF B l w (k+1)+l.getD k 0=drvF B l w (a+1);omega
  ·rw[if_neg (by omega)] at ed;omega
  ·rw[if_neg (by omega)] at ed;show drvF B l w (a+1)-drvF B l w (k+1)+l.getD k 0=drvF B l w (a+1)-drvF B l w k;omega
def entWo19:Ent:=⟨177,.cons Z5 (.cons Z5 (.cons Z1 .nil)),(.int .i64),false,none,fun x=>((0≤(x.2.2.1:Int)∧(x.2.2.1:Int)<List.length (α:=Int) x.1)∧List.length (α:=Int) x.2.1=List.length (α:=Int) x.1∧List.length (α:=Int) x.1≤1000)∧Within 0 1048576 x.1∧Within 0 1048576 x.2.1,fun x=>wrkF x.1 x.2.1 ((x.2.2.1:Int).toNat+1)⟩
def csWo9:List Ent:=[] theorem hcsWo9 (f:FuncId):findEnt csWo9 f=findEnt [] f:=rfl
theorem conWo19:Con Tryz.prog entWo19:=by
 refine con_is (C:=csWo9) x177 (by kernel_rfl) (by simp[csWo9]) fun x hx hf=>?_;obtain ⟨(l:List Int),(w:List Int),(a:Int),_⟩:=x;obtain ⟨⟨⟨h1,h2⟩,h3,h4⟩,hl,hw⟩:=hx;replace h1:0≤a:=h1;replace h2:a<(l.length:Int):=h2;replace h3:w.length=l.length:=h3;replace h4:l.length≤1000:=h4;replace hl:Within 0 1048576 l:=hl;replace hw:Within 0 1048576 w:=hw;obtain ⟨a,rfl⟩:∃z:Nat,a=z:=⟨a.toNat,by omega⟩;have hd:=fun j=>wrk_bd hl hw j;dsimp only[entWo19,x177];simp only[↓hcsWo9,go_sem];try simp only[td,reduceCtorEq]
 refine XW_for 1000 x177_0d [] Nat (fun j=>[(8,.val Z1 (j:Int)),(7,.val Z1 (wrkF l w j))]) (fun _=>[]) (fun j=>j≤a+1) (fun j=>a+1-j) 0 ?_ ?_ ?_
 ·dsimp only[x177_0d];simp only[go_sem];exact ⟨rfl,rfl⟩
 ·exact Nat.zero_le _
 intro j hj;have w2:IntKind.i64.wrap ((j:Int)+1)=((j+1:Nat):Int):=i64_in _ (by omega);have hlj:=hl.getD (Int.le_refl _) (by omega) j;have hwj:=hw.getD (Int.le_refl _) (by omega) j;have hdj:=hd j;have ek:wrkF l w (j+1)=wrkF l w j+(if 0<j then w.getD j 0 else 0)+l.getD j 0:=rfl;dsimp only[x177_0,x177_0d];simp only[↓hcsWo9,w2,go_sem];try simp only[w2,td,reduceCtorEq]
 refine ⟨fun hja=>⟨by omega,fun hp=>⟨by omega,j+1,by omega,by omega,rfl,?_⟩,fun hp=>⟨j+1,by omega,by omega,rfl,?_⟩⟩,fun hja=>by rw[show j=a+1 by omega]⟩
 ·rw[if_pos (by omega)] at ek;rw[i64_in (wrkF l w j+l.getD j 0) (by omega),i64_in (wrkF l w j+l.getD j 0+w.getD j 0) (by omega),ek];show wrkF l w j+l.getD j 0+w.getD j 0=wrkF l w j+w.getD j 0+l.getD j 0;omega
 ·rw[if_neg (by omega),Int.add_zero] at ek;rw[i64_in (wrkF l w j+l.getD j 0) (by omega),ek]
def entCk19:Ent:=⟨125,.cons Z3 (.cons Z9 (.cons Z9 .nil)),.cons Z1 (.cons Z1 .nil),true,none,fun _=>True,fun x=>((checkK x.1 x.2.1 x.2.2.1).1,(checkK x.1 x.2.1 x.2.2.1).2,())⟩
def csCk9:List Ent:=[entRi19,entHs19,entLs19,entDr19,entWo19] theorem hcsCk9 (f:FuncId):findEnt csCk9 f=findEnt [entRi19,entHs19,entLs19,entDr19,entWo19] f:=rfl
theorem conCk19:Con Tryz.prog entCk19:=by
 refine con_is (C:=csCk9) x125 (by kernel_rfl) (by simp[csCk9,conRi19,conHs19,conLs19,conDr19,conWo19]) fun x hx hf=>?_;obtain ⟨⟨(D:Int),(B:Int),(K:Int)⟩,(l:List DLeg),(w:List DLeg),_⟩:=x;dsimp only[entCk19,x125];simp only[↓hcsCk9,entRi19,entHs19,entLs19,entDr19,entWo19,go_sem];try simp only[td,reduceCtorEq]
 refine ⟨fun h=>by unfold checkK;rw[if_pos h],fun hr=>?_⟩;obtain ⟨_,⟨h1,h2⟩,h3,h4⟩:=rightK_iff.1 hr;refine XW_for 1000 x125_0d [0] Nat (fun j=>[(8,.val Z1 (j:Int))]) (fun _=>[]) (fun j=>j≤l.length∧∀k,k<j→badK (D,B,K) l w k=false) (fun j=>l.length-j) 0 ?_ ?_ ?_
 ·dsimp only[x125_0d];simp only[go_sem];try trivial
 ·exact ⟨Nat.zero_le _,fun k hk=>absurd hk (Nat.not_lt_zero _)⟩
 rintro j ⟨hj,hn⟩;by_cases hj':j<l.length
 ·have w2:IntKind.i64.wrap ((j:Int)+1)=((j+1:Nat):Int):=i64_in _ (by omega);have hji:(j:Int)<(l.length:Int):=by omega
  have hbk:badK (D,B,K) l w j=(decide (D<drvF B (highsF l) (lowsF w) (j+1))||decide (K<wrkF (highsF l) (highsF w) (j+1))):=rfl;dsimp only[x125_0,x125_0d];simp only[↓hcsCk9,entRi19,entHs19,entLs19,entDr19,entWo19,hj',hji,w2,highs_len,lows_len,go_sem];try simp only[hj',hji,w2,highs_len,lows_len,td,reduceCtorEq]
  have hl8:l.length≤1000:=by omega
  have hw8:w.length≤1000:=by omega
  refine ⟨⟨hl8,hw8,⟨⟨h2,hl8⟩,legs_high h3⟩,fun q=>⟨q,hl8⟩,fun q=>⟨q,hw8⟩,fun q=>⟨q,⟨h2,hl8⟩,legs_high h3,legs_high h4⟩⟩,fun q=>?_,fun q=>⟨j+1,by omega,⟨hj',fun k hk=>?_⟩,rfl⟩⟩
  ·have hfi:fstK (D,B,K) l w=j:=fstK_at hj' hn (by
    rw[hbk,Bool.or_eq_true,decide_eq_true_eq,decide_eq_true_eq];exact q)
   unfold checkK;rw[if_neg (by rw[hr];simp),hfi,if_neg (by omega)]
  ·by_cases c:k=j
   ·subst c;rw[hbk,Bool.or_eq_false_iff,decide_eq_false_iff_not,decide_eq_false_iff_not];omega
   ·exact hn k (by omega)
 ·have hji:¬(j:Int)<(l.length:Int):=by omega
  obtain rfl:j=l.length:=by omega
  dsimp only[x125_0,x125_0d];simp only[↓hcsCk9,entRi19,entHs19,entLs19,entDr19,entWo19,hj',hji,go_sem];try simp only[hj',hji,td,reduceCtorEq]
  unfold checkK;rw[if_neg (by rw[hr];simp),fstK_none hn,if_pos (by decide)]
end T
end Go.Proofs.YtpocfbfmjippnaaGreat
end
