/- Parts of the proof of the law; no condition. -/
import Derived.Test.YtpocfbfmjippnaaGreatH23
set_option linter.all false
section
namespace Go.Proofs.YtpocfbfmjippnaaGreat
open Go.RowKit Go.IntWalk
namespace T
theorem look_in {ss:List DStop} {rs:List DReq} (hr:RightS ss rs) {j:Nat} (hj:j≤ss.length):∀k∈(cabK ss j).map fun k=>(k,true),0≤k.1∧k.1<rs.length:=fun k hk=>by
 obtain ⟨x,hx,rfl⟩:=List.mem_map.1 hk;exact (hr.in_req (((cab_mem hr hj).2 x).1 hx)).1
theorem any_rides {ss:List DStop} {rs:List DReq} (hr:RightS ss rs) {j:Nat} (hj:j≤ss.length) (m:Int):((cabK ss j).map fun k=>(k,true)).any (fun k=>decide ((rs.getD k.1.toNat dReq).1=m))=ridesB ss rs m j:=by
 rw[Bool.eq_iff_iff];unfold ridesB;simp only[List.any_eq_true,List.mem_map,List.mem_range,Bool.and_eq_true,decide_eq_true_eq];constructor
 ·rintro ⟨_,⟨x,hx,rfl⟩,h⟩;have h2:=((cab_mem hr hj).2 x).1 hx;have h3:=(hr.in_req h2).1;refine ⟨x.toNat,by omega,h,?_⟩;rw[Int.toNat_of_nonneg h3.1];exact h2
 ·rintro ⟨i,hi,h1,h2⟩;exact ⟨((i:Int),true),⟨i,((cab_mem hr hj).2 i).2 h2,rfl⟩,h1⟩
def entRTog:Ent:=⟨121,.cons Z16 (.cons Z15 (.cons Z7 .nil)),.bool,false,none,fun _=>True,fun x=>togF x.1 x.2.1 x.2.2.1⟩
def csRtg:List Ent:=[entRRightS,entRides] theorem hcsRtg (f:FuncId):findEnt csRtg f=findEnt [entRRightS,entRides] f:=rfl
theorem conRTog:Con Tryz.prog entRTog:=by
 refine con_is (C:=csRtg) x121 (by kernel_rfl) (by simp[csRtg,conRRightS,conRides]) fun x hx hf=>?_;obtain ⟨(ps:List DPair),(ss:List DStop),(rs:List DReq),_⟩:=x;have hpl:ps.length≤9223372036854775807:=hf.1.1;dsimp only[entRTog,x121];simp only[↓hcsRtg,entRRightS,entRides,go_sem];try simp only[td,reduceCtorEq]
 refine ⟨fun h=>by unfold togF;rw[h];rfl,fun h=>?_⟩;have hr:RightS ss rs:=of_decide_eq_true h;have hl:ss.length≤80:=hr.1.1;refine XW_for 1000 x121_0d [] Nat (fun j=>[(7,.val Z1 (j:Int))]) (fun j=>[]) (fun n=>n≤ps.length∧∀i,i<n→pairB ss rs (ps.getD i (0,0,false))=true) (fun j=>ps.length-j) 0 ?_ ?_ ?_
 ·dsimp only[x121_0d];simp only[go_sem];rfl
 ·exact ⟨Nat.zero_le _,fun i hi=>by omega⟩
 ·rintro n ⟨hn,hok⟩;dsimp only[x121_0,x121_0d];simp only[↓hcsRtg,entRRightS,entRides,h,go_sem];try simp only[td,reduceCtorEq]
  refine ⟨fun hn'=>?_,fun hn'=>tog_yes h fun i hi=>hok i (by omega)⟩;have hpi:ps.getD n (0,0,false)∈ps:=by simp[List.getD,hn']
  have hno:=tog_no (rs:=rs) (ss:=ss) hn';have hyes:pairB ss rs (ps.getD n (0,0,false))=true→∀i,i<n+1→pairB ss rs (ps.getD i (0,0,false))=true:=fun q i hi=>by
   by_cases c:i=n
   ·rw[c];exact q
   ·exact hok i (by omega)
  have wn:IntKind.i64.wrap ((n:Int)+1)=((n+1:Nat):Int):=i64_in _ (by omega);refine XW_for 2000 x121_1d [] Nat (fun j=>[(10,.val Z1 (j:Int)),(8,.val .bool (someTo ss rs (ps.getD n (0,0,false)) j)),(9,.val .bool (bothTo ss rs (ps.getD n (0,0,false)) j))]) (fun _=>[]) (fun j=>j≤ss.length+1) (fun j=>ss.length+1-j) 0 ?_ ?_ ?_
  ·dsimp only[x121_1d];simp only[go_sem];exact ⟨rfl,rfl,rfl⟩
  ·exact Nat.zero_le _
  ·rintro j hj;have e1:=someTo_next ss rs (ps.getD n (0,0,false)) j;have e2:=bothTo_next ss rs (ps.getD n (0,0,false)) j;have e3:j=ss.length+1→someB ss rs (ps.getD n (0,0,false))=someTo ss rs (ps.getD n (0,0,false)) j:=fun e=>by rw[e];rfl
   have e4:j=ss.length+1→bothB ss rs (ps.getD n (0,0,false))=bothTo ss rs (ps.getD n (0,0,false)) j:=fun e=>by rw[e];rfl
   have e5:pairB ss rs (ps.getD n (0,0,false))=if (ps.getD n (0,0,false)).2.2=true then !someB ss rs (ps.getD n (0,0,false))||bothB ss rs (ps.getD n (0,0,false)) else !bothB ss rs (ps.getD n (0,0,false)):=rfl
   dsimp only[x121_1,x121_1d];simp only[↓hcsRtg,entRRightS,entRides,h,hn',go_sem];try simp only[td,reduceCtorEq]
   have w2:j≤ss.length→IntKind.i64.wrap ((j:Int)+1)=((j+1:Nat):Int):=fun h=>i64_in _ (by omega);refine ⟨fun hj'=>⟨hn',hn',fun q=>⟨q,fun z=>⟨q,z⟩⟩,j+1,by omega,by omega,w2 (by omega),e1.symm,e2.symm⟩,fun hj'=>?_⟩;have hje:j=ss.length+1:=by omega
   rw[←e3 hje,←e4 hje];generalize someB ss rs (ps.getD n (0,0,false))=sm at e5⊢;generalize bothB ss rs (ps.getD n (0,0,false))=bt at e5⊢;refine ⟨⟨hn',fun q=>⟨q,fun z=>⟨q,z⟩⟩⟩,fun q=>hno ?_,fun q=>⟨n+1,by omega,⟨hn',hyes ?_⟩,wn⟩⟩
   ·rw[e5];generalize (ps.getD n (0,0,false)).2.2=pm at q⊢;cases pm<;>cases bt<;>cases sm<;>simp_all
   ·rw[e5];generalize (ps.getD n (0,0,false)).2.2=pm at q⊢;cases pm<;>cases bt<;>cases sm<;>simp_all
def entTog:Ent:=⟨84,.cons Z16 (.cons Z15 (.cons Z7 .nil)),.bool,false,none,fun _=>True,fun x=>togF x.1 x.2.1 x.2.2.1⟩
def csTog:List Ent:=[entRightS,entCHas] theorem hcsTog (f:FuncId):findEnt csTog f=findEnt [entRightS,entCHas] f:=rfl
theorem conTog:Con Tryz.prog entTog:=by
 refine con_is (C:=csTog) x84 (by kernel_rfl) (by simp[csTog,conRightS,conCHas]) fun x hx hf=>?_;obtain ⟨(ps:List DPair),(ss:List DStop),(rs:List DReq),_⟩:=x;have hpl:ps.length≤9223372036854775807:=hf.1.1;dsimp only[entTog,x84];simp only[↓hcsTog,entRightS,entCHas,go_sem];try simp only[td,reduceCtorEq]
 refine ⟨fun h=>by unfold togF;rw[h];rfl,fun h=>?_⟩;have hr:RightS ss rs:=of_decide_eq_true h;have hl:ss.length≤80:=hr.1.1;refine XW_for 1000 x84_0d [0] Nat (fun j=>[(17,.val Z1 (j:Int))]) (fun j=>[]) (fun n=>n≤ps.length∧∀i,i<n→pairB ss rs (ps.getD i (0,0,false))=true) (fun j=>ps.length-j) 0 ?_ ?_ ?_
 ·dsimp only[x84_0d];simp only[go_sem];rfl
 ·exact ⟨Nat.zero_le _,fun i hi=>by omega⟩
 ·rintro n ⟨hn,hok⟩;by_cases hn':n<ps.length
  case neg=>
   dsimp only[x84_0,x84_0d,Z4,Za,Zb,Zc,Ze,Zf];simp only[↓hcsTog,entRightS,entCHas,go_sem];simp only[td,reduceCtorEq];exact ⟨fun q=>absurd q hn',fun _=>tog_yes h fun i hi=>hok i (by omega)⟩
  have hno:=tog_no (rs:=rs) (ss:=ss) hn';have hyes:pairB ss rs (ps.getD n (0,0,false))=true→∀i,i<n+1→pairB ss rs (ps.getD i (0,0,false))=true:=fun q i hi=>by
   by_cases c:i=n
   ·rw[c];exact q
   ·exact hok i (by omega)
  have wn:IntKind.i64.wrap ((n:Int)+1)=((n+1:Nat):Int):=i64_in _ (by omega);generalize hp:ps.getD n (0,0,false)=p at hno hyes;obtain ⟨pa,pb,pm⟩:=p;dsimp only[x84_0,x84_0d,x143,x196,x197,x144,Z4,Za,Zb,Zc,Ze,Zf];simp only[↓hcsTog,entRightS,entCHas,h,hn',hp,wn,go_sem];try simp only[td,reduceCtorEq]
  refine ⟨fun _=>⟨hn',?_⟩,fun q=>absurd hn' q⟩;refine XW_for 2000 x196_0d [0,1003,1005,1006,1011] Nat (fun j=>[(11,.val Z1 (j:Int))]) (fun j=>[(1014,.mp .i64 .bool ((dropsK (ss.take j)).map fun k=>(k,true)))])
   (fun j=>j≤ss.length) (fun j=>ss.length-j) 0 ?_ ?_ ?_
  ·dsimp only[x196_0d];simp only[go_sem];try trivial
  ·exact Nat.zero_le _
  ·rintro j hj;dsimp only[x196_0,x196_0d];simp only[↓hcsTog,entRightS,entCHas,go_sem];try simp only[td,reduceCtorEq]
   by_cases hj':j<ss.length
   ·have w2:IntKind.i64.wrap ((j:Int)+1)=((j+1:Nat):Int):=i64_in _ (by omega);have hd:=dropsK_next hj';dsimp only[dStop] at hd;simp only[hj',w2,mset_keys,td,reduceCtorEq];refine ⟨fun q=>⟨j+1,by omega,hj',rfl,?_⟩,fun q=>⟨j+1,by omega,hj',rfl,?_⟩⟩
    ·rw[hd,dropK,if_neg (by rw[q];simp)]
    ·rw[hd,dropK,if_pos q]
   obtain rfl:j=ss.length:=by omega
   rw[List.take_of_length_le (Nat.le_refl _)];simp only[hj',td,reduceCtorEq];refine XW_for 3000 x196_1d [0,1003,1005,1006,1011] Nat (fun j=>[(24,.val Z1 (j:Int))]) (fun j=>[(1014,.mp .i64 .bool ((firstK ss (ss.take j)).map fun k=>(k,true)))])
    (fun j=>j≤ss.length) (fun j=>ss.length-j) 0 ?_ ?_ ?_
   ·dsimp only[x196_1d];simp only[go_sem];try trivial
   ·exact Nat.zero_le _
   ·rintro j hj;dsimp only[x196_1,x196_1d];simp only[↓hcsTog,entRightS,entCHas,go_sem];try simp only[td,reduceCtorEq]
    by_cases hj':j<ss.length
    ·have w2:IntKind.i64.wrap ((j:Int)+1)=((j+1:Nat):Int):=i64_in _ (by omega);have hd:=firstK_next (ss:=ss) hj';dsimp only[dStop] at hd;simp only[hj',w2,mdel_keys,td,reduceCtorEq];refine ⟨fun q=>⟨j+1,by omega,hj',rfl,?_⟩,fun q=>⟨j+1,by omega,hj',rfl,?_⟩⟩
     ·rw[hd,pickK,if_pos q]
     ·rw[hd,pickK,if_neg (by rw[q];simp)]
    obtain rfl:j=ss.length:=by omega
    rw[List.take_of_length_le (Nat.le_refl _)];simp only[hj',td,reduceCtorEq];have hri0:∀m,((firstK ss ss).map fun k=>(k,true)).any (fun k=>decide ((rs.getD k.1.toNat dReq).1=m))=ridesB ss rs m 0:=fun m=>any_rides hr (Nat.zero_le _) m;have hlk0:=(look_in hr (Nat.zero_le _):∀k∈(cabK ss 0).map fun k=>(k,true),0≤k.1∧k.1<rs.length);dsimp only[dReq] at hri0;simp only[hri0];refine ⟨hlk0,?_⟩;refine XW_for 4000 x143_0d [0,1003,1011] (Nat×List Bool) (fun s=>[(17,.val Z1 (s.1:Int)),(6,.own 3037)])
     (fun s=>[(3037,.row 4 .bool s.2),(1006,.box 4 [.val .bool (bothTo ss rs (pa,pb,pm) (s.1+1))]),(1005,.box 4 [.val .bool (someTo ss rs (pa,pb,pm) (s.1+1))]),(1014,.mp .i64 .bool ((cabK ss s.1).map fun k=>(k,true)))]) (fun s=>s.1≤ss.length∧s.2.length=s.1+1) (fun s=>ss.length-s.1) (0,[ridesB ss rs pa 0&&ridesB ss rs pb 0]) ?_ ?_ ?_
    ·dsimp only[x143_0d];simp only[go_sem];have e1:(ridesB ss rs pa 0&&ridesB ss rs pb 0)=bothTo ss rs (pa,pb,pm) 1:=by rw[bothTo_next];rfl
     have e2:(ridesB ss rs pa 0||ridesB ss rs pb 0)=someTo ss rs (pa,pb,pm) 1:=by rw[someTo_next];rfl
     exact ⟨rfl,e1,e2,rfl⟩
    ·exact ⟨Nat.zero_le _,rfl⟩
    ·rintro ⟨j,O⟩ ⟨hj,hO⟩;dsimp only at hj hO;have e1:=someTo_next ss rs (pa,pb,pm) (j+1);have e2:=bothTo_next ss rs (pa,pb,pm) (j+1);dsimp only[x143_0,x143_0d,x197,x144,Z2,Za,Zb,Zc,Ze];simp only[↓hcsTog,entRightS,entCHas,go_sem];try simp only[mset_keys,mdel_keys,td,reduceCtorEq]
     have w2:j<ss.length→IntKind.i64.wrap ((j:Int)+1)=((j+1:Nat):Int):=fun h=>i64_in _ (by omega);have hst:cabK ss (j+1)=stopK (cabK ss j) (ss.getD j (0,false)):=rfl;have hpair:pairB ss rs (pa,pb,pm)=if pm=true then !someB ss rs (pa,pb,pm)||bothB ss rs (pa,pb,pm) else !bothB ss rs (pa,pb,pm):=rfl
     refine ⟨fun hj'=>⟨hj',fun q=>?_,fun q=>?_⟩,fun hj'=>?_⟩
     ·rw[stopK,if_pos q] at hst;rw[←hst];simp only[any_rides hr (show j+1≤ss.length from hj')];exact ⟨look_in hr hj',fun z=>⟨z,fun y=>⟨z,y⟩⟩,by omega,(j+1,O++[bothTo ss rs (pa,pb,pm) (j+1)||ridesB ss rs pa (j+1)&&ridesB ss rs pb (j+1)]),by dsimp only;omega,⟨hj',by rw[List.length_append,hO];rfl⟩,w2 hj',rfl,e2.symm,e1.symm,rfl⟩
     ·rw[stopK,if_neg (by rw[q];simp)] at hst;rw[←hst];simp only[any_rides hr (show j+1≤ss.length from hj')];exact ⟨look_in hr hj',fun z=>⟨z,fun y=>⟨z,y⟩⟩,by omega,(j+1,O++[bothTo ss rs (pa,pb,pm) (j+1)||ridesB ss rs pa (j+1)&&ridesB ss rs pb (j+1)]),by dsimp only;omega,⟨hj',by rw[List.length_append,hO];rfl⟩,w2 hj',rfl,e2.symm,e1.symm,rfl⟩
     ·obtain rfl:j=ss.length:=by omega
      have e3:someTo ss rs (pa,pb,pm) (ss.length+1)=someB ss rs (pa,pb,pm):=rfl;have e4:bothTo ss rs (pa,pb,pm) (ss.length+1)=bothB ss rs (pa,pb,pm):=rfl;rw[e3,e4];generalize someB ss rs (pa,pb,pm)=sm at hpair⊢;generalize bothB ss rs (pa,pb,pm)=bt at hpair⊢;refine ⟨fun q=>⟨q,fun z=>⟨q,z⟩⟩,fun q=>hno ?_,fun q=>⟨n+1,by omega,⟨hn',hyes ?_⟩,wn⟩⟩
      ·rw[hpair];cases pm<;>cases bt<;>cases sm<;>simp_all
      ·rw[hpair];cases pm<;>cases bt<;>cases sm<;>simp_all
end T
end Go.Proofs.YtpocfbfmjippnaaGreat
end
