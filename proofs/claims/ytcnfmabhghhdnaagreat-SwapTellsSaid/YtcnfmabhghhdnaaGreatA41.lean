/- Parts of the proof of the law; no condition. -/
import Derived.Test.YtcnfmabhghhdnaaGreatA26
set_option linter.all false
section
namespace Go.Proofs.YtcnfmabhghhdnaaGreat
open Go.RowKit Go.IntWalk
namespace T
def entREarly:Ent:=⟨200,.cons Z1 (.cons Z18 (.cons Z1 (.cons Z1 (.cons .bool .nil)))),.cons Z3 (.cons Z1 .nil),true,none,fun _=>True,fun x=>earlyF x.1 x.2.1 x.2.2.1 x.2.2.2.1 x.2.2.2.2.1⟩
def csRe:List Ent:=[entRRoad,entTimeR,entNone,entRPass] theorem hcsRe (f:FuncId):findEnt csRe f=findEnt [entRRoad,entTimeR,entNone,entRPass] f:=rfl
theorem conREarly:Con Tryz.prog entREarly:=by
 refine con_is (C:=csRe) x200 (by kernel_rfl) (by simp[csRe,conRRoad,conTimeR,conNone,conRPass]) fun x hx hf=>?_;obtain ⟨(n:Int),(A:List DArc),(src:Int),(start:Int),(hi:Bool),_⟩:=x;dsimp only[entREarly,x200,Z1,Z2,Za,Zb,Zc,Ze,Zg];simp only[↓hcsRe,entRRoad,entTimeR,entNone,entRPass,go_sem];simp only[td,reduceCtorEq];try dsimp only[Ty.den]
 refine ⟨fun h=>?_,fun h=>?_⟩
 ·unfold earlyF;rw[if_pos];cases h1:rightR n A with
  |false=>rfl
  |true=>
   rw[Bool.true_and,Bool.and_eq_false_iff,Bool.and_eq_false_iff,decide_eq_false_iff_not,decide_eq_false_iff_not];rcases h with ((h|h)|h)|h
   ·rw[h1] at h;cases h
   ·exact .inl (by omega)
   ·exact .inr (.inl (by omega))
   ·exact .inr (.inr h)
 obtain ⟨⟨n1,n2⟩,hAl,hall⟩:=rightR_all h.1.1.1;obtain ⟨n,rfl⟩:∃m:Nat,n=m:=⟨n.toNat,by omega⟩;obtain ⟨src,rfl⟩:∃m:Nat,src=m:=⟨src.toNat,by omega⟩;refine ⟨by omega,by omega,⟨⟨by omega,by rw[List.length_replicate];omega⟩,by rw[List.length_replicate];omega⟩,?_⟩;have e0:(List.replicate n ((-1:Int),(-1:Int))).getD src (0,0)=(-1,-1):=by
  rw[List.getD_eq_getElem?_getD,List.getElem?_replicate,if_pos (by omega)];rfl
 simp only[Int.toNat_natCast,e0];refine XW_for 1000 x200_0d [21,24] (List DLab×List Bool) (fun _=>[]) (fun s=>[(21,.row 232 Z2 s.1),(24,.row 4 .bool s.2)])
  (fun s=>s.1.length=n∧s.2.length=n∧runF false (moveE A hi) A.length (s.2.count false) s.1 s.2=searchF false (moveE A hi) A.length n src start) (fun s=>s.2.count false) ((List.replicate n ((-1:Int),(-1:Int))).set src (start,-1),List.replicate n false) ?_ ?_ ?_
 ·dsimp only[x200_0d];simp only[go_sem]
 ·exact ⟨by simp,by simp,by simp[searchF]⟩
 ·rintro ⟨L,S⟩ ⟨hL,hS,hrun⟩;dsimp only at hL hS hrun;dsimp only[x200_0,x200_0d,Za,Zb,Zg];simp only[↓hcsRe,entRRoad,entTimeR,entNone,entRPass,go_sem];try simp only[td,reduceCtorEq]
  refine XW_for 2000 x200_1d [21,24] Nat (fun j=>[(14,.val Z1 (pickTo false L S j)),(15,.val Z1 (j:Int))]) (fun _=>[]) (fun j=>j≤n) (fun j=>n-j) 0 ?_ ?_ ?_
  ·dsimp only[x200_1d];simp only[go_sem];exact ⟨rfl,rfl⟩
  ·exact Nat.zero_le n
  ·intro j hj;dsimp only[x200_1,x200_1d,Z1,Z2,Za,Zc,Zf,Zg,Zh];simp only[↓hcsRe,entRRoad,entTimeR,entNone,entRPass,go_sem];try simp only[td,reduceCtorEq]
   have hbd:=pickTo_bd false L S j;have hpu:=pickTo_un false L S j;have w2:IntKind.i64.wrap ((j:Int)+1)=((j+1:Nat):Int):=i64_in _ (by omega);refine ⟨fun hj'=>⟨⟨by omega,by omega,fun h=>⟨h,by omega⟩,fun h=>⟨h,by omega⟩,fun h=>⟨h,by omega⟩,fun h=>⟨h,by omega⟩,fun h=>⟨h,by rw[if_neg (by omega)];omega⟩,fun h=>⟨h,by rw[if_neg (by omega)];omega⟩,fun h=>⟨h,fun h'=>⟨h,h'⟩⟩⟩,fun h=>⟨j+1,by omega,by omega,?_,w2⟩,fun h=>⟨j+1,by omega,by omega,?_,w2⟩⟩,fun hj'=>?_⟩
   ·have hq:pickTo false L S j<0∨betterB false (L.getD j (0,0)).1 (L.getD (pickTo false L S j).toNat (0,0)).1=true:=by
     by_cases hp:pickTo false L S j<0
     ·exact .inl hp
     ·refine .inr ?_;have h2:=h.2;rw[if_neg hp] at h2;unfold betterB;rw[if_neg (by have:=(hpu (by omega)).2;omega),if_neg (by decide)];exact decide_eq_true (by omega)
    rw[pickTo,if_pos ⟨h.1.1,h.1.2,hq⟩]
   ·rw[pickTo,if_neg];rintro ⟨h1,h2,h3⟩;have h4:=h ⟨h1,h2⟩;rcases h3 with h3|h3
    ·omega
    ·rw[if_neg (by omega)] at h4;unfold betterB at h3;rw[if_neg (by have:=(hpu (by omega)).2;omega),if_neg (by decide)] at h3;have:=of_decide_eq_true h3;omega
   have ej:j=L.length:=by omega
   subst ej;refine ⟨fun hp=>?_,fun hp=>⟨⟨⟨hp,by omega⟩,by omega⟩,?_⟩⟩
   ·rw[←runF_end hp,hrun];unfold earlyF;rw[if_neg]
    ·rfl
    ·rw[h.1.1.1,decide_eq_true h.1.1.2,decide_eq_true h.1.2,h.2];simp
   obtain ⟨u,hu⟩:∃u:Nat,pickTo false L S L.length=u:=⟨(pickTo false L S L.length).toNat,by omega⟩;have hgo:=runF_go (E:=moveE A hi) (m:=A.length) (by omega) hu;have hun:=(pickTo_un false L S L.length hp).1;rw[hu] at hun;replace hun:S.getD u false=false:=hun;rw[hu] at hbd hp⊢;clear hu hp hpu;rw[show (u:Int).toNat=u from rfl];refine XW_for 3000 x200_2d [21,24] Nat (fun j=>[(16,.val Z1 (j:Int))]) (fun j=>[(21,.row 232 Z2 (relaxTo false (moveE A hi) (S.set u true) u j L))]) (fun j=>j≤A.length) (fun j=>A.length-j) 0 ?_ ?_ ?_
   ·dsimp only[x200_2d];simp only[go_sem];exact ⟨rfl,rfl⟩
   ·exact Nat.zero_le _
   ·intro j hj;dsimp only[x200_2,x200_2d,Z1,Z15,Z2,Za,Zb,Zc,Ze,Zf,Zg];have hl:=relaxTo_length (late:=false) (E:=moveE A hi) (S:=S.set u true) (u:=u) (L:=L) j;simp only[↓hcsRe,entRRoad,entTimeR,entNone,entRPass,go_sem];try simp only[td,reduceCtorEq]
    have w2:IntKind.i64.wrap ((j:Int)+1)=((j+1:Nat):Int):=i64_in _ (by omega);have hk:j<A.length→_:=fun h=>hall (A.getD j (0,0,[],[])) (by rw[List.getD_eq_getElem?_getD,List.getElem?_eq_getElem h];exact List.getElem_mem _);have e1:((moveE A hi j).1=u→relaxTo false (moveE A hi) (S.set u true) u (j+1) L=reachF false (S.set u true) (relaxTo false (moveE A hi) (S.set u true) u j L) (moveE A hi j).2.1.toNat ((moveE A hi j).2.2 ((relaxTo false (moveE A hi) (S.set u true) u j L).getD u (0,0)).1) j)∧(¬(moveE A hi j).1=u→relaxTo false (moveE A hi) (S.set u true) u (j+1) L=relaxTo false (moveE A hi) (S.set u true) u j L):=⟨fun h=>if_pos h,fun h=>if_neg h⟩;dsimp only[moveE] at e1;have hs:(S.set u true).length=n:=by rw[List.length_set];exact hS
    refine ⟨fun hjl=>?_,fun hjl=>?_⟩
    ·replace hk:=hk hjl;generalize relaxTo false (moveE A hi) (S.set u true) u j L=R at hl e1⊢;generalize (toArc (A.getD j (0,0,[],[]))).passF hi (R.getD u (0,0)).1=t at e1⊢;generalize (A.getD j (0,0,[],[])).2.1=v at e1 hk⊢;have hR:R.length=n:=by omega
     have hv:v.toNat<n:=by omega
     generalize S.set u true=S2 at*;refine ⟨hjl,⟨hjl,fun h=>⟨h,by omega⟩,fun h=>⟨h,by omega⟩⟩,fun h1=>⟨j+1,by omega,by omega,w2,?_⟩,fun hc=>⟨⟨hjl,by omega⟩,?_,fun h1=>⟨by omega,j+1,by omega,by omega,w2,?_⟩,fun h1=>⟨j+1,by omega,by omega,w2,?_⟩⟩⟩
     ·by_cases hk1:(A.getD j (0,0,[],[])).1=(u:Int)
      ·rw[e1.1 hk1,reachF,if_pos (.inl (h1.resolve_left (fun h2=>h2 hk1)))]
      ·rw[e1.2 hk1]
     ·refine ⟨?_,?_,?_,?_,?_,?_,?_,?_,?_,?_,?_⟩<;>first|exact fun h=>⟨h,by omega⟩|exact fun h=>⟨h,fun h'=>⟨h,h'⟩⟩
     ·rw[e1.1 hc.1,reachF,if_neg (by rw[hc.2,h1.1];simp),if_pos];rcases h1.2 with (h2|h2)|h2
      ·left;unfold betterB;rw[if_pos h2]
      ·left;unfold betterB;split
       ·rfl
       ·exact decide_eq_true h2
      ·exact .inr h2
     ·rw[e1.1 hc.1,reachF];split
      ·rfl
      ·rename_i h2;rw[not_or] at h2;have h3:=h1 (by simpa using h2.2);rw[if_neg];rintro (h4|h4)
       ·unfold betterB at h4;rw[if_neg (by omega),if_neg (by decide)] at h4;have:=of_decide_eq_true h4;omega
       ·have:=h3.2 h4.1;omega
    ·have ej:j=A.length:=by omega
     subst ej;refine ⟨(relaxTo false (moveE A hi) (S.set u true) u A.length L,S.set u true),?_,⟨by rw[relaxTo_length];exact hL,hs,by rw[←hrun,hgo]⟩,rfl,rfl⟩;have:=count_settle (S:=S) (u:=u) (by omega) hun;dsimp only;omega
end T
end Go.Proofs.YtcnfmabhghhdnaaGreat
end
