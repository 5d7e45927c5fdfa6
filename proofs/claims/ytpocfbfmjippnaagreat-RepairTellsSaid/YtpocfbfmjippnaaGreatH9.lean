/- Parts of the proof of the law; no condition. -/
import Derived.Test.YtpocfbfmjippnaaGreatH13
import Derived.Test.YtpocfbfmjippnaaGreatH8
set_option linter.all false
section
namespace Go.Proofs.YtpocfbfmjippnaaGreat
theorem runLen {late:Bool} {E:Nat→Move} {m:Nat}:∀(f:Nat) (L:List DLab) (S:List Bool),(runF late E m f L S).length=L.length
 |0,_,_=>rfl
 |f+1,L,S=>by
  unfold runF;split
  ·rfl
  ·rw[runLen f,relaxTo_length]
namespace T
theorem earlyLen {n:Int} {A:List DArc} (h:rightR n A=true) (src start:Int) (hi:Bool):(earlyF n A src start hi).1.length≤2000:=by
 unfold earlyF;split
 ·exact Nat.zero_le _
 ·have:=rightR_n h;dsimp only;unfold searchF;rw[runLen,List.length_set,List.length_replicate];omega
def minI (a b:Int):Int:=if b<a then b else a
def lowB (L:List Int) (f:Nat):Nat→Int
 |0=>L.getD (f % 24) 0
 |i+1=>minI (lowB L f i) (L.getD ((f+(i+1)) % 24) 0)
def highB (L:List Int) (f:Nat):Nat→Int
 |0=>L.getD (f % 24) 0
 |i+1=>maxI (highB L f i) (L.getD ((f+(i+1)) % 24) 0)
def hoursN (f t:Int):Nat:=min ((t / 60).toNat-(f / 60).toNat) 23
def bndF (a:DArc) (f t:Int):DLeg:=(lowB a.2.2.1 (f / 60).toNat (hoursN f t),highB a.2.2.2 (f / 60).toNat (hoursN f t))
def legStep (A:List DArc) (e l:Int) (out:DLeg) (k:Int):DLeg:=(out.1+(bndF (A.getD k.toNat (0,0,[],[])) (e+out.1) (l+out.2)).1,out.2+(bndF (A.getD k.toNat (0,0,[],[])) (e+out.1) (l+out.2)).2)
def legWay (w:DWorld) (f t:Int) (x:DWin):List Int:=wayF (earlyF w.1 w.2.1 f x.1 true).1 w.2.1 t
def legF (w:DWorld) (f t:Int) (x:DWin):DLeg×Bool:=
 if f=t then ((0,0),true) else ((legWay w f t x).foldl (legStep w.2.1 x.1 x.2) (0,0),decide (legWay w f t x≠[]))
theorem minI_le (a b:Int):minI a b≤a∧minI a b≤b∧(minI a b=a∨minI a b=b):=by unfold minI;split<;>omega
theorem hours_at {a:Arc} (h:a.right) {k:Nat} (hk:k<24):0≤a.L.getD k 0∧a.L.getD k 0≤a.H.getD k 0∧a.H.getD k 0≤600:=h.2.2.2.2 k hk
theorem low_bd {a:Arc} (h:a.right) (f:Nat):∀i,0≤lowB a.L f i∧lowB a.L f i≤highB a.H f i∧highB a.H f i≤600
 |0=>hours_at h (Nat.mod_lt _ (by omega))
 |i+1=>by
  have h1:=low_bd h f i;have h2:=hours_at h (k:=(f+(i+1)) % 24) (Nat.mod_lt _ (by omega));have h3:=minI_le (lowB a.L f i) (a.L.getD ((f+(i+1)) % 24) 0);show 0≤minI _ _∧minI _ _≤maxI _ _∧maxI _ _≤600;unfold maxI;split<;>omega
theorem lowB_le (L:List Int) (f:Nat):∀i,lowB L f i≤L.getD (f % 24) 0
 |0=>Int.le_refl _
 |i+1=>Int.le_trans (minI_le _ _).1 (lowB_le L f i)
theorem highB_le (L:List Int) (f:Nat):∀i,L.getD (f % 24) 0≤highB L f i
 |0=>Int.le_refl _
 |i+1=>by
  have h1:=highB_le L f i;show _≤maxI _ _;unfold maxI;split<;>omega
theorem lowB_24 (L:List Int) (f i:Nat) (h:i≤24):lowB L f i=lowB L f (min i 23):=by
 by_cases c:i≤23
 ·rw[Nat.min_eq_left c]
 ·obtain rfl:i=24:=by omega
  rw[show min 24 23=23 from rfl];have h1:=lowB_le L f 23;show minI (lowB L f 23) (L.getD ((f+24) % 24) 0)=_;rw[Nat.add_mod_right];unfold minI;rw[if_neg (by omega)]
theorem highB_24 (L:List Int) (f i:Nat) (h:i≤24):highB L f i=highB L f (min i 23):=by
 by_cases c:i≤23
 ·rw[Nat.min_eq_left c]
 ·obtain rfl:i=24:=by omega
  rw[show min 24 23=23 from rfl];have h1:=highB_le L f 23;show maxI (highB L f 23) (L.getD ((f+24) % 24) 0)=_;rw[Nat.add_mod_right];unfold maxI;rw[if_neg (by omega)]
theorem wayGo_in {L:List DLab} {A:List (Int×Int×List Int×List Int)}:∀(f:Nat) (to:Int) (out:List Int),∀i∈wayGo L A f to out,i∈out∨0≤i∧i<A.length
 |0,to,out=>by
  unfold wayGo;split
  ·exact fun i h=>.inl h
  ·exact fun i h=>absurd h List.not_mem_nil
 |f+1,to,out=>by
  unfold wayGo;split
  ·exact fun i h=>.inl h
  split
  ·exact fun i h=>absurd h List.not_mem_nil
  rename_i c;intro i h;rcases wayGo_in f _ _ i h with h|h
  ·rcases List.mem_cons.1 h with rfl|h
   ·exact .inr ⟨by omega,by omega⟩
   ·exact .inl h
  ·exact .inr h
theorem wayF_in {L:List DLab} {A:List (Int×Int×List Int×List Int)} {to:Int}:∀i∈wayF L A to,0≤i∧i<A.length:=by
 unfold wayF;split
 ·exact fun i h=>absurd h List.not_mem_nil
 ·exact fun i h=>(wayGo_in _ _ _ i h).resolve_left List.not_mem_nil
theorem wayGo_len {L:List DLab} {A:List (Int×Int×List Int×List Int)}:∀(f:Nat) (to:Int) (out:List Int),(wayGo L A f to out).length≤f+out.length
 |0,to,out=>by
  unfold wayGo;split
  ·omega
  ·exact Nat.zero_le _
 |f+1,to,out=>by
  unfold wayGo;split
  ·omega
  split
  ·exact Nat.zero_le _
  have:=wayGo_len (L:=L) (A:=A) f ((A.getD (L.getD to.toNat (0,0)).2.toNat (0,0,[],[])).1) ((L.getD to.toNat (0,0)).2::out);rw[List.length_cons] at this;omega
theorem wayF_len {L:List DLab} {A:List (Int×Int×List Int×List Int)} {to:Int}:(wayF L A to).length≤L.length:=by
 unfold wayF;split
 ·exact Nat.zero_le _
 ·exact wayGo_len _ _ _
theorem leg_fold {A:List DArc} (hA:∀a∈A,(toArc a).rightB=true) (e l:Int):∀(W:List Int),(∀i∈W,0≤i∧i<A.length)→∀out:DLeg,0≤out.1→out.1≤out.2→0≤(W.foldl (legStep A e l) out).1∧(W.foldl (legStep A e l) out).1≤(W.foldl (legStep A e l) out).2∧(W.foldl (legStep A e l) out).2≤out.2+600*W.length
 |[],_,out,h0,h1=>⟨h0,h1,by simp⟩
 |i::W,hW,out,h0,h1=>by
  have hi:=hW i (by simp);have hm:A.getD i.toNat (0,0,[],[])∈A:=getD_mem2 (by omega);have hr:(toArc (A.getD i.toNat (0,0,[],[]))).right:=of_decide_eq_true (hA _ hm);have hb:=low_bd hr ((e+out.1) / 60).toNat (hoursN (e+out.1) (l+out.2));have ih:=leg_fold hA e l W (fun j hj=>hW j (by simp[hj])) (legStep A e l out i) (by unfold legStep bndF;dsimp only at hb⊢;omega) (by unfold legStep bndF;dsimp only at hb⊢;omega);rw[List.foldl_cons,List.length_cons];have e2:(legStep A e l out i).2≤out.2+600:=by unfold legStep bndF;dsimp only at hb⊢;omega
  omega
theorem legWay_len {w:DWorld} (h:rightP w=true) (f t:Int) (x:DWin):(legWay w f t x).length≤2000:=Nat.le_trans wayF_len (earlyLen (rightP_iff.1 h).1 _ _ _)
theorem leg_bd {w:DWorld} (h:rightP w=true) (f t:Int) (x:DWin) (k:Nat):0≤(((legWay w f t x).take k).foldl (legStep w.2.1 x.1 x.2) (0,0)).1∧(((legWay w f t x).take k).foldl (legStep w.2.1 x.1 x.2) (0,0)).1≤(((legWay w f t x).take k).foldl (legStep w.2.1 x.1 x.2) (0,0)).2∧(((legWay w f t x).take k).foldl (legStep w.2.1 x.1 x.2) (0,0)).2≤1200000:=by
 have h1:=leg_fold (A:=w.2.1) (fun a ha=>((rightR_n (rightP_iff.1 h).1).2.2.2 a ha).1) x.1 x.2 ((legWay w f t x).take k) (fun i hi=>wayF_in i (List.mem_of_mem_take hi)) (0,0) (Int.le_refl _) (Int.le_refl _);have h2:=legWay_len h f t x;rw[List.length_take] at h1;dsimp only at h1;omega
end T
end Go.Proofs.YtpocfbfmjippnaaGreat
end
section
namespace Go.Proofs.YtpocfbfmjippnaaGreat
open Go.RowKit Go.IntWalk
namespace T
def i3 (n a b:Int):Bool:=decide (a≤n∧n≤b)
def entIn20:Ent:=⟨115,.cons Z1 (.cons Z1 (.cons Z1 .nil)),.bool,false,none,fun _=>True,fun x=>i3 x.1 x.2.1 x.2.2.1⟩
def csIn20:List Ent:=[] theorem hcsIn20 (f:FuncId):findEnt csIn20 f=findEnt [] f:=rfl
theorem conIn20:Con Tryz.prog entIn20:=by
 refine con_is (C:=csIn20) x115 (by kernel_rfl) (by simp[csIn20]) fun x hx hf=>?_;obtain ⟨(n:Int),(a:Int),(b:Int),_⟩:=x;dsimp only[entIn20,x115];simp only[↓hcsIn20,go_sem];try simp only[td,reduceCtorEq]
 unfold i3;rw[Bool.eq_iff_iff];simp
def entTi20:Ent:=⟨116,.cons Z1 .nil,.bool,false,none,fun _=>True,fun x=>i3 x.1 0 1048576⟩
def csTi20:List Ent:=[entIn20] theorem hcsTi20 (f:FuncId):findEnt csTi20 f=findEnt [entIn20] f:=rfl
theorem conTi20:Con Tryz.prog entTi20:=by
 refine con_is (C:=csTi20) x116 (by kernel_rfl) (by simp[csTi20,conIn20]) fun x hx hf=>?_;obtain ⟨(n:Int),_⟩:=x;dsimp only[entTi20,x116];simp only[↓hcsTi20,entIn20,go_sem];try simp only[td,reduceCtorEq]
def entPs20:Ent:=⟨117,.cons Z1 (.cons Z1 (.cons Z1 .nil)),.bool,false,none,fun _=>True,fun x=>i3 x.1 0 60&&i3 x.2.1 0 60&&i3 x.2.2.1 0 60⟩
def csPs20:List Ent:=[entIn20] theorem hcsPs20 (f:FuncId):findEnt csPs20 f=findEnt [entIn20] f:=rfl
theorem conPs20:Con Tryz.prog entPs20:=by
 refine con_is (C:=csPs20) x117 (by kernel_rfl) (by simp[csPs20,conIn20]) fun x hx hf=>?_;obtain ⟨(a:Int),(b:Int),(c:Int),_⟩:=x;dsimp only[entPs20,x117];simp only[↓hcsPs20,entIn20,go_sem];try simp only[td,reduceCtorEq]
theorem carB_iff {m:Int} {c:DCar}:carB m c=true↔(0≤c.2.1∧c.2.1≤m)∧((0≤c.2.2.1∧c.2.2.1≤1048576)∧0≤c.2.2.2.1∧c.2.2.2.1≤1048576)∧c.2.2.1≤c.2.2.2.1∧(0≤c.2.2.2.2.1∧c.2.2.2.2.1≤60)∧(0≤c.2.2.2.2.2.1∧c.2.2.2.2.2.1≤60)∧0≤c.2.2.2.2.2.2.1∧c.2.2.2.2.2.2.1≤60:=by
 unfold carB allIn;simp
theorem reqB_iff {m:Int} {q:DReq}:reqB m q=true↔(((0≤q.2.2.2.1∧q.2.2.2.1≤1048576)∧(0≤q.2.2.2.2.1∧q.2.2.2.2.1≤1048576)∧(0≤q.2.2.2.2.2.1∧q.2.2.2.2.2.1≤1048576)∧0≤q.2.2.2.2.2.2.1∧q.2.2.2.2.2.2.1≤1048576)∧q.2.2.2.1≤q.2.2.2.2.1)∧(0≤q.1∧q.1≤3999)∧((0≤q.2.1∧q.2.1≤m)∧0≤q.2.2.1∧q.2.2.1≤m)∧(0≤q.2.2.2.2.2.2.2.1∧q.2.2.2.2.2.2.2.1≤60)∧(0≤q.2.2.2.2.2.2.2.2.1∧q.2.2.2.2.2.2.2.2.1≤60)∧0≤q.2.2.2.2.2.2.2.2.2∧q.2.2.2.2.2.2.2.2.2≤60:=by
 unfold reqB allIn;simp
theorem prB_iff {p:DPair}:prB p=true↔(0≤p.1∧p.1≤3999)∧0≤p.2.1∧p.2.1≤3999:=by
 unfold prB allIn;simp
theorem i3_iff {n a b:Int}:i3 n a b=true↔a≤n∧n≤b:=by unfold i3;simp
theorem i3_not {n a b:Int}:i3 n a b=false↔ ¬(a≤n∧n≤b):=by unfold i3;simp
def entRR20:Ent:=⟨72,.cons Z21 .nil,.bool,false,none,fun _=>True,fun x=>rightP x.1⟩
def csR20:List Ent:=[entIn20,entTi20,entPs20,entRRoad,entRi19] theorem hcsR20 (f:FuncId):findEnt csR20 f=findEnt [entIn20,entTi20,entPs20,entRRoad,entRi19] f:=rfl
set_option maxHeartbeats 4000000 in
theorem conRR20:Con Tryz.prog entRR20:=by
 refine con_is (C:=csR20) x72 (by kernel_rfl) (by simp[csR20,conIn20,conTi20,conPs20,conRRoad,conRi19]) fun x hx hf=>?_;obtain ⟨⟨(N:Int),(A:List DArc),(C:List DCar),(Q:List DReq),(P:List DPair),(S1:Int),(S2:Int),(S3:Int)⟩,_⟩:=x;dsimp only[entRR20,x72];simp only[↓hcsR20,entIn20,entTi20,entPs20,entRRoad,entRi19,go_sem];try simp only[td,reduceCtorEq]
 have hno:(rightP (N,A,C,Q,P,S1,S2,S3)=true→False)→false=rightP (N,A,C,Q,P,S1,S2,S3):=fun h=>by
  symm;rw[←Bool.not_eq_true];exact h
 refine ⟨fun h=>hno fun q=>?_,?_⟩
 ·obtain ⟨q1,q2,_⟩:=rightP_iff.1 q;dsimp only at q1 q2;rcases h with ((h|h)|h)|h
  ·rw[h] at q1;cases q1
  ·omega
  ·omega
  ·omega
 rintro ⟨⟨⟨h1,h2⟩,h3⟩,h4⟩;have hn:=rightR_n h1;have w:IntKind.i64.wrap (N-1)=N-1:=i64_in _ (by omega);refine XW_for 1000 x72_0d [0] Nat (fun j=>[(3,.val Z1 (j:Int))]) (fun _=>[]) (fun j=>j≤C.length∧∀k,k<j→carB (N-1) (C.getD k (0,0,0,0,0,0,0,0,0))=true) (fun j=>C.length-j) 0 ?_ ?_ ?_
 ·dsimp only[x72_0d];simp only[go_sem];try trivial
 ·exact ⟨Nat.zero_le _,fun k hk=>absurd hk (Nat.not_lt_zero _)⟩
 rintro j ⟨hj,hnn⟩;by_cases hj':j<C.length
 ·have w2:IntKind.i64.wrap ((j:Int)+1)=((j+1:Nat):Int):=i64_in _ (by omega);have hji:(j:Int)<(C.length:Int):=by omega
  have hmem:=getD_mem2 (d:=((0,0,0,0,0,0,0,0,0):DCar)) hj';generalize hS:C.getD j (0,0,0,0,0,0,0,0,0)=x at hmem;obtain ⟨o,n,r,e,s,c,b,g,f⟩:=x;dsimp only[x72_0,x72_0d];simp only[↓hcsR20,entIn20,entTi20,entPs20,entRRoad,entRi19,hj',hji,hS,w,w2,go_sem];try simp only[hj',hji,hS,w,w2,i3_iff,i3_not,td,reduceCtorEq]
  refine ⟨fun h=>hno fun q=>?_,fun h=>⟨j+1,by omega,⟨hj',fun k hk=>?_⟩,rfl⟩⟩
  ·have q2:=carB_iff.1 ((rightP_iff.1 q).2.2.1 _ hmem);dsimp only at q2;omega
  ·by_cases c:k=j
   ·subst c;rw[hS,carB_iff];dsimp only;omega
   ·exact hnn k (by omega)
 have hC2:∀x∈C,carB (N-1) x=true:=fun x hx=>by
  obtain ⟨k,hk,rfl⟩:=List.getElem_of_mem hx;have:=hnn k (by omega);rwa [show C.getD k (0,0,0,0,0,0,0,0,0)=C[k] by simp[List.getD,hk]] at this
 have hji:¬(j:Int)<(C.length:Int):=by omega
 dsimp only[x72_0,x72_0d];simp only[↓hcsR20,entIn20,entTi20,entPs20,entRRoad,entRi19,hj',hji,go_sem];try simp only[hj',hji,td,reduceCtorEq]
 refine XW_for 2000 x72_1d [0] Nat (fun j=>[(5,.val Z1 (j:Int))]) (fun _=>[]) (fun j=>j≤Q.length∧∀k,k<j→reqB (N-1) (Q.getD k dReq)=true) (fun j=>Q.length-j) 0 ?_ ?_ ?_
 ·dsimp only[x72_1d];simp only[go_sem];try trivial
 ·exact ⟨Nat.zero_le _,fun k hk=>absurd hk (Nat.not_lt_zero _)⟩
 rintro j ⟨hj,hnn⟩;by_cases hj':j<Q.length
 ·have w2:IntKind.i64.wrap ((j:Int)+1)=((j+1:Nat):Int):=i64_in _ (by omega);have hji:(j:Int)<(Q.length:Int):=by omega
  have hmem:=getD_mem2 (d:=dReq) hj';generalize hS:Q.getD j dReq=x at hmem;have hS':Q.getD j (0,0,0,0,0,0,0,0,0,0)=x:=hS;obtain ⟨m,f,t,e,l,d,r,s,c,b⟩:=x;dsimp only[x72_1,x72_1d];simp only[↓hcsR20,entIn20,entTi20,entPs20,entRRoad,entRi19,hj',hji,hS',w,w2,go_sem];try simp only[hj',hji,hS',w,w2,i3_iff,i3_not,td,reduceCtorEq]
  refine ⟨fun h=>hno fun q=>?_,fun h=>⟨j+1,by omega,⟨hj',fun k hk=>?_⟩,rfl⟩⟩
  ·have q2:=reqB_iff.1 ((rightP_iff.1 q).2.2.2.1 _ hmem);dsimp only at q2;omega
  ·by_cases c:k=j
   ·subst c;rw[hS,reqB_iff];dsimp only;omega
   ·exact hnn k (by omega)
 have hQ2:∀x∈Q,reqB (N-1) x=true:=fun x hx=>by
  obtain ⟨k,hk,rfl⟩:=List.getElem_of_mem hx;have:=hnn k (by omega);rwa [show Q.getD k dReq=Q[k] by simp[List.getD,hk]] at this
 have hji:¬(j:Int)<(Q.length:Int):=by omega
 dsimp only[x72_1,x72_1d];simp only[↓hcsR20,entIn20,entTi20,entPs20,entRRoad,entRi19,hj',hji,go_sem];try simp only[hj',hji,td,reduceCtorEq]
 refine XW_for 3000 x72_2d [0] Nat (fun j=>[(7,.val Z1 (j:Int))]) (fun _=>[]) (fun j=>j≤P.length∧∀k,k<j→prB (P.getD k (0,0,false))=true) (fun j=>P.length-j) 0 ?_ ?_ ?_
 ·dsimp only[x72_2d];simp only[go_sem];try trivial
 ·exact ⟨Nat.zero_le _,fun k hk=>absurd hk (Nat.not_lt_zero _)⟩
 rintro j ⟨hj,hnn⟩;by_cases hj':j<P.length
 ·have w2:IntKind.i64.wrap ((j:Int)+1)=((j+1:Nat):Int):=i64_in _ (by omega);have hji:(j:Int)<(P.length:Int):=by omega
  have hmem:=getD_mem2 (d:=((0,0,false):DPair)) hj';generalize hS:P.getD j (0,0,false)=x at hmem;obtain ⟨a,b,m⟩:=x;dsimp only[x72_2,x72_2d];simp only[↓hcsR20,entIn20,entTi20,entPs20,entRRoad,entRi19,hj',hji,hS,w2,go_sem];try simp only[hj',hji,hS,w2,i3_iff,i3_not,td,reduceCtorEq]
  refine ⟨fun h=>hno fun q=>?_,fun h=>⟨j+1,by omega,⟨hj',fun k hk=>?_⟩,rfl⟩⟩
  ·have q2:=prB_iff.1 ((rightP_iff.1 q).2.2.2.2.1 _ hmem);dsimp only at q2;omega
  ·by_cases c:k=j
   ·subst c;rw[hS,prB_iff];dsimp only;omega
   ·exact hnn k (by omega)
 have hP2:∀x∈P,prB x=true:=fun x hx=>by
  obtain ⟨k,hk,rfl⟩:=List.getElem_of_mem hx;have:=hnn k (by omega);rwa [show P.getD k (0,0,false)=P[k] by simp[List.getD,hk]] at this
 have hji:¬(j:Int)<(P.length:Int):=by omega
 dsimp only[x72_2,x72_2d];simp only[↓hcsR20,entIn20,entTi20,entPs20,entRRoad,entRi19,hj',hji,go_sem];try simp only[hj',hji,td,reduceCtorEq]
 rw[Bool.eq_iff_iff,rightP_iff];exact ⟨fun h=>⟨h1,⟨by dsimp only;omega,by dsimp only;omega,by dsimp only;omega⟩,hC2,hQ2,hP2,h⟩,fun h=>h.2.2.2.2.2⟩
end T
end Go.Proofs.YtpocfbfmjippnaaGreat
end
