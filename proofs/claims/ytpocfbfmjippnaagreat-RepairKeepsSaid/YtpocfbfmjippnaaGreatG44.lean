/- Parts of the proof of the law; no condition. -/
import Derived.Test.YtpocfbfmjippnaaGreatG43
set_option linter.all false
section
namespace Go.Proofs.YtpocfbfmjippnaaGreat
open Go.RowKit Go.IntWalk
namespace T
set_option pp.deepTerms true
set_option pp.maxSteps 1000000
def entCty:Ent:=⟨28,.nil,Z21,false,none,fun _=>True,fun _=>ctyW⟩
def csCty:List Ent:=[] theorem hcsCty (f:FuncId):findEnt csCty f=findEnt [] f:=rfl
theorem conCty:Con Tryz.prog entCty:=by
 refine con_is (C:=csCty) x28 (by kernel_rfl) (by simp[csCty]) fun x hx hf=>?_;obtain ⟨⟩:=x;obtain ⟨W,hW⟩:∃W:DWorld,ctyW=W:=⟨_,rfl⟩;obtain ⟨R,hR⟩:∃R:Nat→List Int,∀k,R k=List.replicate k (10:Int):=⟨_,fun k=>rfl⟩;have hRl:∀k,(R k).length=k:=fun k=>by rw[hR,List.length_replicate]
 have hRn:∀k,R k++[10]=R (k+1):=fun k=>by rw[hR,hR,←List.replicate_succ']
 have hR1:[10]=R 1:=by rw[hR];rfl
 dsimp only[entCty,x28];rw[hW];simp only[↓hcsCty,undef,go_sem];try simp only[td,reduceCtorEq]
 obtain ⟨AR,h1,h2⟩:∃AR:Nat→List DArc,AR 1=[(0,1,R 24,R 24)]∧AR 2=[(0,1,R 24,R 24),(1,0,R 24,R 24)]:=
  ⟨fun k=>[(0,1,R 24,R 24),(1,0,R 24,R 24)].take k,rfl,rfl⟩
 refine XW_first 1000 x28_0d [0] Nat (fun k=>[(2,.val Z1 (k:Int))]) (fun k=>[(1,.box 39 [.val Z1 2,.own 100,.cst (.slice none 0 0),.cst (.slice none 0 0),.cst (.slice none 0 0),.val Z1 100,.val Z1 30,.val Z1 300]),(100,.row 113 Z11 (AR k))])
  (fun k=>1≤k∧k≤2) (fun k=>2-k) 2 ?_ ?_
 ·dsimp only[x28_0,x28_0d];have n02:(0:Int)<2:=by decide
  have w10:IntKind.i64.wrap (1-0)=1:=by decide
  have w01:IntKind.i64.wrap (0+1)=((1:Nat):Int):=by decide
  have n024:(0:Int)<24:=by decide
  simp only[↓hcsCty,undef,n02,w10,go_sem];try simp only[n02,w10,td,reduceCtorEq]
  refine XW_first 2000 x28_1d [0,1] Nat (fun h=>[(4,.val Z1 (h:Int))]) (fun h=>[(14,.box 113 [.val Z1 0,.val Z1 1,.own 1100,.own 1101]),(1100,.row 3 (.int .i64) (R h)),(1101,.row 3 (.int .i64) (R h))]) (fun h=>1≤h∧h≤24) (fun h=>24-h) 24 ?_ ?_
  ·dsimp only[x28_1,x28_1d];simp only[↓hcsCty,undef,n024,w01,hR1,go_sem];try simp only[n024,w01,hR1,td,reduceCtorEq]
   exact ⟨by rw[hRl];decide,by rw[hRl];decide,1,by omega,⟨by omega,by omega⟩,rfl,rfl⟩
  intro h hh;dsimp only[x28_1,x28_1d];by_cases hh':h<24
  ·have hki:(h:Int)<24:=by omega
   have w2:IntKind.i64.wrap ((h:Int)+1)=((h+1:Nat):Int):=i64_in _ (by omega);have hb:((R h).length+1)*8≤140737488355328:=by rw[hRl];omega
   simp only[↓hcsCty,undef,hki,w2,hb,hRn,go_sem];try simp only[hki,w2,hb,hRn,td,reduceCtorEq]
   exact ⟨h+1,by omega,⟨by omega,by omega⟩,rfl,rfl⟩
  obtain rfl:h=24:=by omega
  have hki:¬((24:Nat):Int)<24:=by decide
  have hA:[((0:Int),(1:Int),R 24,R 24)]=AR 1:=h1.symm;simp only[↓hcsCty,undef,hki,w01,hA,go_sem];try simp only[hki,w01,hA,td,reduceCtorEq]
  exact ⟨by rw[h1];exact Nat.le_of_ble_eq_true rfl,1,by omega,⟨by omega,by omega⟩,rfl,rfl⟩
 intro k hk;dsimp only[x28_0,x28_0d];rcases (by omega:k=1∨k=2) with rfl|rfl
 ·have n12:((1:Nat):Int)<2:=by decide
  have w10:IntKind.i64.wrap (1-((1:Nat):Int))=0:=by decide
  have w01:IntKind.i64.wrap (0+1)=((1:Nat):Int):=by decide
  have w12:IntKind.i64.wrap (((1:Nat):Int)+1)=((2:Nat):Int):=by decide
  have n024:(0:Int)<24:=by decide
  have hb:((AR 1).length+1)*64≤140737488355328:=by rw[h1];exact Nat.le_of_ble_eq_true rfl
  simp only[↓hcsCty,undef,n12,w10,go_sem];try simp only[n12,w10,td,reduceCtorEq]
  refine XW_first 2000 x28_1d [0,1,100] Nat (fun h=>[(4,.val Z1 (h:Int))]) (fun h=>[(1006,.box 113 [.val Z1 ((1:Nat):Int),.val Z1 0,.own 1100,.own 1101]),(1100,.row 3 (.int .i64) (R h)),(1101,.row 3 (.int .i64) (R h))]) (fun h=>1≤h∧h≤24) (fun h=>24-h) 24 ?_ ?_
  ·dsimp only[x28_1,x28_1d];simp only[↓hcsCty,undef,n024,w01,hR1,go_sem];try simp only[n024,w01,hR1,td,reduceCtorEq]
   exact ⟨by rw[hRl];decide,by rw[hRl];decide,1,by omega,⟨by omega,by omega⟩,rfl,rfl⟩
  intro h hh;dsimp only[x28_1,x28_1d];by_cases hh':h<24
  ·have hki:(h:Int)<24:=by omega
   have w2:IntKind.i64.wrap ((h:Int)+1)=((h+1:Nat):Int):=i64_in _ (by omega);have hb:((R h).length+1)*8≤140737488355328:=by rw[hRl];omega
   simp only[↓hcsCty,undef,hki,w2,hb,hRn,go_sem];try simp only[hki,w2,hb,hRn,td,reduceCtorEq]
   exact ⟨h+1,by omega,⟨by omega,by omega⟩,rfl,rfl⟩
  obtain rfl:h=24:=by omega
  have hki:¬((24:Nat):Int)<24:=by decide
  have hA:AR 1++[(((1:Nat):Int),(0:Int),R 24,R 24)]=AR 2:=by rw[h1,h2];rfl
  simp only[↓hcsCty,undef,hki,w12,hb,hA,go_sem];try simp only[hki,w12,hb,hA,td,reduceCtorEq]
  exact ⟨2,by omega,⟨by omega,by omega⟩,rfl,rfl⟩
 have n22:¬((2:Nat):Int)<2:=by decide
 simp only[↓hcsCty,undef,n22,go_sem];try simp only[n22,td,reduceCtorEq]
 obtain ⟨CR,hCR⟩:∃CR:Nat→List DCar,∀k,CR k=List.replicate k (0,0,0,100,1,0,0,0,0):=⟨_,fun k=>rfl⟩;obtain ⟨QR,hQR⟩:∃QR:Nat→List DReq,∀k,QR k=List.replicate k (0,0,1,20,30,60,40,1,0,0):=⟨_,fun k=>rfl⟩;have hC1:[(0,0,0,100,1,0,0,0,0)]=CR 1:=by rw[hCR];rfl
 have hQ1:[(0,0,1,20,30,60,40,1,0,0)]=QR 1:=by rw[hQR];rfl
 have hCn:∀k,CR k++[(0,0,0,100,1,0,0,0,0)]=CR (k+1):=fun k=>by rw[hCR,hCR,←List.replicate_succ']
 have hQn:∀k,QR k++[(0,0,1,20,30,60,40,1,0,0)]=QR (k+1):=fun k=>by rw[hQR,hQR,←List.replicate_succ']
 refine XW_first 1000 x28_2d [0,100] Nat (fun k=>[(5,.val Z1 (k:Int))]) (fun k=>[(1,.box 39 [.val Z1 2,.own 100,.own 101,.own 102,.cst (.slice none 0 0),.val Z1 100,.val Z1 30,.val Z1 300]),(101,.row 115 Z19 (CR k)),(102,.row 117 Z6 (QR k))])
  (fun k=>1≤k∧k≤3) (fun k=>3-k) 3 ?_ ?_
 ·dsimp only[x28_2,x28_2d];have n03:(0:Int)<3:=by decide
  have w01:IntKind.i64.wrap (0+1)=((1:Nat):Int):=by decide
  simp only[↓hcsCty,undef,n03,w01,hC1,hQ1,go_sem];try simp only[n03,w01,hC1,hQ1,td,reduceCtorEq]
  exact ⟨by rw[hCR];exact Nat.le_of_ble_eq_true rfl,by rw[hQR];exact Nat.le_of_ble_eq_true rfl,1,by omega,⟨by omega,by omega⟩,rfl,rfl,rfl⟩
 intro k hk;dsimp only[x28_2,x28_2d];by_cases hk':k<3
 ·have hki:(k:Int)<3:=by omega
  have w2:IntKind.i64.wrap ((k:Int)+1)=((k+1:Nat):Int):=i64_in _ (by omega);have hb1:((CR k).length+1)*72≤140737488355328:=by rw[hCR,List.length_replicate];omega
  have hb2:((QR k).length+1)*80≤140737488355328:=by rw[hQR,List.length_replicate];omega
  simp only[↓hcsCty,undef,hki,w2,hb1,hb2,hCn,hQn,go_sem];try simp only[hki,w2,hb1,hb2,hCn,hQn,td,reduceCtorEq]
  exact ⟨k+1,by omega,⟨by omega,by omega⟩,rfl,rfl,rfl⟩
 obtain rfl:k=3:=by omega
 have hki:¬((3:Nat):Int)<3:=by decide
 simp only[↓hcsCty,undef,hki,go_sem];try simp only[hki,td,reduceCtorEq]
 rw[←hW,h2,hCR,hQR,hR];rfl
end T
end Go.Proofs.YtpocfbfmjippnaaGreat
end
