/- Parts of the proof of the law; no condition. -/
import Derived.Test.YtpocfbfmjippnaaGreatH20
set_option linter.all false
section
namespace Go.Proofs.YtpocfbfmjippnaaGreat
open Go.RowKit Go.IntWalk
namespace T
def entRides:Ent:=⟨167,.cons Z15 (.cons Z7 (.cons Z1 (.cons Z1 .nil))),.bool,false,none,fun x=>0≤(x.2.2.2.1:Int),fun x=>ridesB x.1 x.2.1 x.2.2.1 (x.2.2.2.1:Int).toNat⟩
def csRi:List Ent:=[entIn] theorem hcsRi (f:FuncId):findEnt csRi f=findEnt [entIn] f:=rfl
theorem conRides:Con Tryz.prog entRides:=by
 refine con_is (C:=csRi) x167 (by kernel_rfl) (by simp[csRi,conIn]) fun x hx hf=>?_;obtain ⟨(ss:List DStop),(rs:List DReq),(m:Int),(j:Int),_⟩:=x;have hl:rs.length≤9223372036854775807:=hf.2.1.1;have hx:0≤j:=hx;obtain ⟨j,rfl⟩:∃n:Nat,j=n:=⟨j.toNat,by omega⟩;dsimp only[entRides,x167];simp only[↓hcsRi,entIn,go_sem];try simp only[td,reduceCtorEq]
 refine XW_for 1000 x167_0d [] Nat (fun i=>[(9,.val Z1 (i:Int))]) (fun _=>[]) (fun n=>n≤rs.length∧∀i,i<n→(decide ((rs.getD i dReq).1=m)&&inB ss i j)=false) (fun i=>rs.length-i) 0 ?_ ?_ ?_
 ·dsimp only[x167_0d];simp only[go_sem];try rfl
 ·exact ⟨Nat.zero_le _,fun i hi=>by omega⟩
 ·rintro i ⟨hi,hn⟩;dsimp only[x167_0,x167_0d];simp only[↓hcsRi,entIn,go_sem];try simp only[td,reduceCtorEq]
  have w2:i<rs.length→IntKind.i64.wrap ((i:Int)+1)=((i+1:Nat):Int):=fun h=>i64_in _ (by omega);refine ⟨fun hi'=>⟨hi',fun q=>?_,fun q=>⟨i+1,by omega,⟨hi',fun k hk=>?_⟩,w2 hi'⟩⟩,fun hi'=>?_⟩
  ·symm;unfold ridesB;rw[List.any_eq_true];exact ⟨i,List.mem_range.2 hi',by simpa using q⟩
  ·by_cases c:k=i
   ·subst c;exact q
   ·intro z;have:=hn k (by omega);rw[Bool.and_eq_false_imp] at this;exact this (decide_eq_true z)
  ·symm;unfold ridesB;rw[List.any_eq_false];intro k hk;have:=hn k (by rw[List.mem_range] at hk;omega);simp only[this,Bool.false_eq_true,not_false_eq_true]
def entAfter:Ent:=⟨200,.cons Z15 (.cons Z7 (.cons Z1 .nil)),Z3,false,none,fun x=>rightS x.1 x.2.1=true∧0≤(x.2.2.1:Int),fun x=>afterF x.1 x.2.1 x.2.2.1⟩
def csAf:List Ent:=[entIn] theorem hcsAf (f:FuncId):findEnt csAf f=findEnt [entIn] f:=rfl
theorem conAfter:Con Tryz.prog entAfter:=by
 refine con_is (C:=csAf) x200 (by kernel_rfl) (by simp[csAf,conIn]) fun x hx hf=>?_;obtain ⟨(ss:List DStop),(rs:List DReq),(j:Int),_⟩:=x;obtain ⟨hr,hj⟩:=hx;have hj:0≤j:=hj;obtain ⟨j,rfl⟩:∃n:Nat,j=n:=⟨j.toNat,by omega⟩;have hr:RightS ss rs:=of_decide_eq_true hr;have hl:rs.length≤30000:=hr.1.2;dsimp only[entAfter,x200];simp only[↓hcsAf,entIn,go_sem];try simp only[td,reduceCtorEq]
 refine XW_for 1000 x200_0d [0] Nat (fun i=>[(8,.val Z1 (i:Int))])
  (fun i=>[(1,.box 215 [.val Z1 (sumTo (fun i=>if inB ss i j=true then rl rs i else (0,0,0)) i).1,.val Z1 (sumTo (fun i=>if inB ss i j=true then rl rs i else (0,0,0)) i).2.1,.val Z1 (sumTo (fun i=>if inB ss i j=true then rl rs i else (0,0,0)) i).2.2])]) (fun n=>n≤rs.length) (fun i=>rs.length-i) 0 ?_ ?_ ?_
 ·dsimp only[x200_0d];simp only[go_sem];try trivial
 ·exact Nat.zero_le _
 ·rintro i hi;have hb:=sumTo_bd (n:=i) (f:=fun i=>if inB ss i j=true then rl rs i else (0,0,0)) (fun i _=>after_part hr j i);have hpt:=placesB_iff.1 (after_part hr j i);have hnx:sumTo (fun i=>if inB ss i j=true then rl rs i else (0,0,0)) (i+1)=add3 (sumTo (fun i=>if inB ss i j=true then rl rs i else (0,0,0)) i) (if inB ss i j=true then rl rs i else (0,0,0)):=rfl;have hend:i=rs.length→sumTo (fun i=>if inB ss i j=true then rl rs i else (0,0,0)) i=afterF ss rs j:=fun e=>by rw[e];rfl
  generalize sumTo (fun i=>if inB ss i j=true then rl rs i else (0,0,0)) i=S at hb hnx hend⊢;obtain ⟨s1,s2,s3⟩:=S;dsimp only[x200_0,x200_0d];simp only[↓hcsAf,entIn,go_sem];try simp only[td,reduceCtorEq]
  have w2:i<rs.length→IntKind.i64.wrap ((i:Int)+1)=((i+1:Nat):Int):=fun h=>i64_in _ (by omega);dsimp only at hb hnx;refine ⟨fun hi'=>⟨fun q=>⟨hi',hi',hi',i+1,by omega,hi',w2 hi',?_⟩,fun q=>⟨i+1,by omega,hi',w2 hi',?_⟩⟩,fun hi'=>hend (by omega)⟩
  ·rw[if_pos q] at hpt hnx;rw[hnx];unfold add3 rl reqLoad at*;rw[Int.toNat_natCast] at*;dsimp only[dReq] at hpt⊢;exact ⟨i64_in _ (by omega),i64_in _ (by omega),i64_in _ (by omega)⟩
  ·rw[if_neg (by rw[q];simp)] at hnx;rw[hnx,add3_zero];exact ⟨rfl,rfl,rfl⟩
theorem sumK_pick {rs:List DReq} {p:Int×Bool}:∀{L:List (Int×Bool)} {i:Nat},L[i]?=some p→sumK rs (L.map (·.1))=add3 (rl rs p.1) (sumK rs ((L.eraseIdx i).map (·.1)))
 |[],_,h=>by simp at h
 |q::r,0,h=>by
  simp only[List.getElem?_cons_zero,Option.some.injEq] at h;subst h;rfl
 |q::r,i+1,h=>by
  simp only[List.getElem?_cons_succ] at h;rw[List.map_cons,sumK,sumK_pick h,List.eraseIdx_cons_succ,List.map_cons,sumK,←add3_assoc,add3_comm (rl rs q.1),add3_assoc]
theorem any_pick {α:Type} {f:α→Bool} {p:α}:∀{L:List α} {i:Nat},L[i]?=some p→f p=false→(L.eraseIdx i).any f=L.any f
 |[],_,h,_=>by simp at h
 |q::r,0,h,hf=>by
  simp only[List.getElem?_cons_zero,Option.some.injEq] at h;subst h;simp[hf]
 |q::r,i+1,h,hf=>by
  simp only[List.getElem?_cons_succ] at h;rw[List.eraseIdx_cons_succ,List.any_cons,List.any_cons,any_pick h hf]
abbrev DMap:=List (Int×Bool)
def entCLoad:Ent:=⟨194,.cons (.mp .i64 .bool) (.cons Z7 .nil),Z3,false,none,fun x=>(x.1:DMap).length≤30000∧∀k∈(x.1:DMap),(0≤k.1∧k.1<(x.2.1:List DReq).length)∧placesB (rl x.2.1 k.1)=true,fun x=>sumK x.2.1 ((x.1:DMap).map (·.1))⟩
def csCl:List Ent:=[entOf] theorem hcsCl (f:FuncId):findEnt csCl f=findEnt [entOf] f:=rfl
theorem conCLoad:Con Tryz.prog entCLoad:=by
 refine con_is (C:=csCl) x194 (by kernel_rfl) (by simp[csCl,conOf]) fun x hx hf=>?_;obtain ⟨(H:DMap),(rs:List DReq),_⟩:=x;obtain ⟨hn,hk⟩:=hx;dsimp only at hn hk;dsimp only[entCLoad,x194];simp only[↓hcsCl,entOf,go_sem];try simp only[td,reduceCtorEq]
 refine XW_for 1000 x194_0d [0] (DMap×DLoad) (fun _=>[])
  (fun s=>[(3,.it .i64 .bool s.1 none),(1,.box 192 [.val Z1 s.2.1,.val Z1 s.2.2.1,.val Z1 s.2.2.2])])
  (fun s=>add3 s.2 (sumK rs (s.1.map (·.1)))=sumK rs (H.map (·.1))∧(∀k∈s.1,k∈H)∧s.1.length≤H.length∧(0≤s.2.1∧s.2.1≤60*(H.length-s.1.length))∧(0≤s.2.2.1∧s.2.2.1≤60*(H.length-s.1.length))∧0≤s.2.2.2∧s.2.2.2≤60*(H.length-s.1.length))
  (fun s=>s.1.length) (H,0,0,0) ?_ ?_ ?_
 ·dsimp only[x194_0d];simp only[go_sem];try trivial
 ·exact ⟨zero_add3 _,fun k hk=>hk,Nat.le_refl _,by dsimp only;omega,by dsimp only;omega,by dsimp only;omega⟩
 ·rintro ⟨L,s1,s2,s3⟩ ⟨hs,hL,hlen,hb1,hb2,hb3⟩;dsimp only at hs hL hlen hb1 hb2 hb3;dsimp only[x194_0,x194_0d,Z1,Z3,Z6,Za,Zb,Zc,Ze,Zh,Zi];simp only[↓hcsCl,entOf,go_sem];try simp only[td,reduceCtorEq]
  refine ⟨fun h0=>?_,fun i p hi=>?_⟩
  ·subst h0;rw[←hs];exact (add3_zero _).symm
  ·have hil:=(List.getElem?_eq_some_iff.1 hi).1;have hpH:p∈H:=hL p (List.mem_of_getElem? hi);obtain ⟨hr,hpl⟩:=hk p hpH;have hpl:=placesB_iff.1 hpl;unfold rl at hpl;have hle:(L.eraseIdx i).length=L.length-1:=List.length_eraseIdx_of_lt hil;have hpk:=sumK_pick (rs:=rs) hi;refine ⟨hr,(L.eraseIdx i,add3 (s1,s2,s3) (rl rs p.1)),by rw[hle];omega,⟨?_,fun k hk=>hL k (List.mem_of_mem_eraseIdx hk),by rw[hle];omega,?_⟩,rfl,?_⟩
   ·rw[add3_assoc,←hpk];exact hs
   ·rw[hle];unfold add3 rl;dsimp only[dReq] at hpl⊢;omega
   ·unfold add3 rl;dsimp only[dReq] at hpl⊢;exact ⟨i64_in _ (by omega),i64_in _ (by omega),i64_in _ (by omega)⟩
def entCHas:Ent:=⟨145,.cons (.mp .i64 .bool) (.cons Z1 (.cons Z7 .nil)),.bool,false,none,fun x=>∀k∈(x.1:DMap),(0≤k.1∧k.1<(x.2.2.1:List DReq).length),fun x=>(x.1:DMap).any fun k=>decide (((x.2.2.1:List DReq).getD k.1.toNat dReq).1=x.2.1)⟩
def csCh:List Ent:=[] theorem hcsCh (f:FuncId):findEnt csCh f=findEnt [] f:=rfl
theorem conCHas:Con Tryz.prog entCHas:=by
 refine con_is (C:=csCh) x145 (by kernel_rfl) (by simp[csCh]) fun x hx hf=>?_;obtain ⟨(H:DMap),(m:Int),(rs:List DReq),_⟩:=x;have hx:∀k∈H,(0≤k.1∧k.1<rs.length):=hx;dsimp only[entCHas,x145];simp only[↓hcsCh,go_sem];try simp only[td,reduceCtorEq]
 refine XW_for 1000 x145_0d [] DMap (fun _=>[]) (fun s=>[(2,.it .i64 .bool s none)])
  (fun s=>(∀k∈s,k∈H)∧s.any (fun k=>decide ((rs.getD k.1.toNat dReq).1=m))=H.any fun k=>decide ((rs.getD k.1.toNat dReq).1=m)) (fun s=>s.length) H ?_ ?_ ?_
 ·dsimp only[x145_0d];simp only[go_sem];try trivial
 ·exact ⟨fun k hk=>hk,rfl⟩
 ·rintro L ⟨hL,ha⟩;dsimp only[x145_0,x145_0d,Z1,Z6,Za,Zb,Ze];simp only[↓hcsCh,go_sem];try simp only[td,reduceCtorEq]
  refine ⟨fun h0=>by subst h0;exact ha,fun i p hi=>⟨hx p (hL p (List.mem_of_getElem? hi)),fun q=>?_,fun q=>⟨L.eraseIdx i,?_,⟨fun k hk=>hL k (List.mem_of_mem_eraseIdx hk),?_⟩,rfl⟩⟩⟩
  ·symm;rw[List.any_eq_true];exact ⟨p,hL p (List.mem_of_getElem? hi),decide_eq_true q⟩
  ·have hil:=(List.getElem?_eq_some_iff.1 hi).1;rw[List.length_eraseIdx_of_lt hil];omega
  ·rw[←ha];exact any_pick hi (decide_eq_false q)
end T
end Go.Proofs.YtpocfbfmjippnaaGreat
end
