/- Parts of the proof of the law; no condition. -/
import Derived.Test.YtpocfbfmjippnaaGreatH8
set_option linter.all false
section
namespace Go.Proofs.YtpocfbfmjippnaaGreat
open Go.RowKit Go.IntWalk
def revTo (zs:List Int):Nat→List Int
 |0=>zs
 |k+1=>((revTo zs k).set k ((revTo zs k).getD (zs.length-1-k) 0)).set (zs.length-1-k) ((revTo zs k).getD k 0)
theorem revTo_length (zs:List Int):∀k,(revTo zs k).length=zs.length
 |0=>rfl
 |k+1=>by rw[revTo,List.length_set,List.length_set,revTo_length zs k]
theorem revTo_get (zs:List Int):∀k,2*k≤zs.length→∀p,p<zs.length→(revTo zs k).getD p 0=if p<k∨zs.length-1-p<k then zs.getD (zs.length-1-p) 0 else zs.getD p 0
 |0,_,p,_=>by rw[if_neg (by omega)];rfl
 |k+1,hk,p,hp=>by
  have ih:=revTo_get zs k (by omega);have hl:=revTo_length zs k;rw[revTo,List.getD_eq_getElem?_getD,List.getElem?_set];by_cases c:zs.length-1-k=p
  ·rw[if_pos c,if_pos (by rw[List.length_set];omega),Option.getD_some,ih k (by omega),if_neg (by omega),if_pos (by omega),show zs.length-1-p=k by omega]
  ·rw[if_neg c,List.getElem?_set];by_cases d:k=p
   ·rw[if_pos d,if_pos (by omega),Option.getD_some,ih _ (by omega),if_neg (by omega),if_pos (by omega),d]
   ·rw[if_neg d,←List.getD_eq_getElem?_getD,ih p hp];by_cases e:p<k∨zs.length-1-p<k
    ·rw[if_pos e,if_pos (by omega)]
    ·rw[if_neg e,if_neg (by omega)]
theorem revTo_end (zs:List Int) {k:Nat} (hk:2*k≤zs.length) (h:zs.length≤2*k+1):revTo zs k=zs.reverse:=by
 apply List.ext_getElem
 ·rw[revTo_length,List.length_reverse]
 ·intro p h1 h2;rw[revTo_length] at h1;have h3:=revTo_get zs k hk p h1;rw[List.getD_eq_getElem?_getD,List.getElem?_eq_getElem (by rw[revTo_length];exact h1),Option.getD_some] at h3;rw[h3,List.getElem_reverse];split
  ·rw[List.getD_eq_getElem?_getD,List.getElem?_eq_getElem (by omega),Option.getD_some]
  ·have e:zs.length-1-p=p:=by omega
   simp only[e];rw[List.getD_eq_getElem?_getD,List.getElem?_eq_getElem h1,Option.getD_some]
namespace T
def entWay:Ent:=⟨185,.cons Z9 (.cons Z13 (.cons Z1 .nil)),Z5,false,none,fun x=>List.length (α:=DLab) x.1≤100000,fun x=>wayF x.1 x.2.1 x.2.2.1⟩
def csWy:List Ent:=[] theorem hcsWy (f:FuncId):findEnt csWy f=findEnt [] f:=rfl
theorem conWay:Con Tryz.prog entWay:=by
 refine con_is (C:=csWy) x185 (by kernel_rfl) (by simp[csWy]) fun x hx hf=>?_;obtain ⟨(L:List DLab),(A:List DArc),(to:Int),_⟩:=x;dsimp only[entWay,x185,Z1,Z8,Za,Zb,Zc,Ze,Zf];simp only[↓hcsWy,go_sem];simp only[td,reduceCtorEq];try dsimp only[Ty.den]
 have hLl:L.length≤100000:=hx;refine ⟨fun h=>?_,fun h=>?_⟩
 ·unfold wayF;rw[if_pos (or_assoc.1 h)]
 have e0:wayF L A to=wayGo L A L.length to []:=if_neg (by rintro (h2|h2|h2)<;>omega);rw[e0];refine XW_for 1000 x185_0d [17] (List Int×Int) (fun s=>[(7,.own 17),(2,.val Z1 s.2)]) (fun s=>[(17,.row 3 (.int .i64) s.1)])
  (fun s=>(0≤s.2∧s.2<L.length)∧s.1.length≤L.length∧wayGo L A (L.length-s.1.length) s.2 s.1.reverse=wayGo L A L.length to []) (fun s=>L.length-s.1.length) ([],to) ?_ ?_ ?_
 ·dsimp only[x185_0d];simp only[go_sem]
 ·exact ⟨⟨by omega,by omega⟩,Nat.zero_le _,rfl⟩
 ·rintro ⟨out,to'⟩ ⟨ht,hl,hgo⟩;dsimp only at ht hl hgo;dsimp only[x185_0,x185_0d];simp only[↓hcsWy,go_sem];try simp only[td,reduceCtorEq]
  refine ⟨ht,fun h1=>⟨ht,⟨fun h=>⟨h,h.1⟩,fun h=>⟨h,h.1.1⟩⟩,fun h2=>?_,fun h2=>⟨by omega,h2.1.1.1.1,(out++[(L.getD to'.toNat (0,0)).2],(A.getD (L.getD to'.toNat (0,0)).2.toNat (0,0,[],[])).1),?_,⟨⟨h2.1.1.2,h2.1.2⟩,?_,?_⟩,rfl,rfl⟩⟩,fun h1=>?_⟩
  ·rw[←hgo];by_cases c:out.length=L.length
   ·rw[c,Nat.sub_self,wayGo,if_neg h1]
   ·obtain ⟨f,hf⟩:∃f,L.length-out.length=f+1:=⟨L.length-out.length-1,by omega⟩;rw[hf,wayGo,if_neg h1,if_pos];rcases h2 with ((((h2|h2)|h2)|h2)|h2)|h2
    ·exact .inl h2
    ·exact .inr (.inl h2)
    ·exact .inr (.inr (.inl h2))
    ·exact .inr (.inr (.inr (.inl h2)))
    ·exact .inr (.inr (.inr (.inr h2)))
    ·exact absurd h2 c
  ·dsimp only;rw[List.length_append,List.length_singleton];omega
  ·dsimp only;rw[List.length_append,List.length_singleton];omega
  ·dsimp only;rw[←hgo,List.length_append,List.length_singleton,List.reverse_append];obtain ⟨f,hf⟩:∃f,L.length-out.length=f+1:=⟨L.length-out.length-1,by omega⟩;rw[hf,show L.length-(out.length+1)=f by omega];conv=>rhs;rw[wayGo,if_neg h1,if_neg (by
    rintro (h3|h3|h3|h3|h3)
    ·omega
    ·omega
    ·exact h3 h2.1.1.1.2
    ·omega
    ·omega)]
   rfl
  ·have hd:wayGo L A L.length to []=out.reverse:=by
    rw[←hgo];cases L.length-out.length<;>rw[wayGo,if_pos h1]
   rw[hd];clear hgo hd;dsimp only[x222];simp only[↓hcsWy,go_sem];try simp only[td,reduceCtorEq]
   refine XW_for 2000 x222_0d [17] Nat (fun k=>[(2,.val Z1 (k:Int)),(3,.val Z1 ((out.length:Int)-1-k))]) (fun k=>[(17,.row 3 (.int .i64) (revTo out k))]) (fun k=>2*k≤out.length) (fun k=>out.length-k) 0 ?_ ?_ ?_
   ·dsimp only[x222_0d];simp only[go_sem];refine ⟨⟨rfl,?_⟩,rfl⟩;rw[i64_in ((out.length:Int)-1) (by omega)];show (out.length:Int)-1=(out.length:Int)-1-((0:Nat):Int);omega
   ·exact Nat.zero_le _
   ·intro k hk;dsimp only[x222_0,x222_0d];have hr:=revTo_length out k;simp only[↓hcsWy,go_sem];try simp only[td,reduceCtorEq]
    have hn:((out.length:Int)-1-k).toNat=out.length-1-k:=by omega
    rw[hn];refine ⟨fun h2=>⟨?_,k+1,by omega,by omega,⟨i64_in _ (by omega),?_⟩,rfl⟩,fun h2=>revTo_end out hk (by omega)⟩
    ·rw[List.length_set];omega
    ·rw[i64_in ((out.length:Int)-1-k-1) (by omega)];show (out.length:Int)-1-k-1=(out.length:Int)-1-((k+1:Nat):Int);omega
end T
end Go.Proofs.YtpocfbfmjippnaaGreat
end
section
namespace Go.Proofs.YtpocfbfmjippnaaGreat
open Go.RowKit Go.IntWalk
namespace T
def entRWay:Ent:=⟨203,.cons Z9 (.cons Z13 (.cons Z1 .nil)),Z5,false,none,fun x=>List.length (α:=DLab) x.1≤100000,fun x=>wayF x.1 x.2.1 x.2.2.1⟩
def wayR (L:List DLab) (A:List DArc) (to:Int) (out:List Int):List Int:=if to<0∨L.length≤to∨out=[]∧(L.getD to.toNat (0,0)).1= -1 then [] else wayGo L A (L.length-out.length) to out
def csRw:List Ent:=[] theorem hcsRw (f:FuncId):findEnt csRw f=findEnt [] f:=rfl
theorem conRWay:Con Tryz.prog entRWay:=by
 refine con_is (C:=csRw) x203 (by kernel_rfl) (by simp[csRw]) fun x hx hf=>?_;obtain ⟨(L:List DLab),(A:List DArc),(to:Int),_⟩:=x;dsimp only[entRWay,x203];simp only[↓hcsRw,go_sem];try simp only[td,reduceCtorEq]
 try dsimp only[Ty.den]
 have hLl:L.length≤100000:=hx;have e0:wayF L A to=wayR L A to []:=by unfold wayF wayR;simp
 rw[e0];refine XW_for 1000 x203_0d [1] (List Int×Int) (fun s=>[(7,.own 1),(2,.val Z1 s.2)]) (fun s=>[(1,.row 3 (.int .i64) s.1)])
  (fun s=>s.1.length≤L.length∧wayR L A s.2 s.1=wayR L A to []) (fun s=>L.length-s.1.length) ([],to) ?_ ?_ ?_
 ·dsimp only[x203_0d];simp only[go_sem]
 ·exact ⟨Nat.zero_le _,rfl⟩
 ·rintro ⟨out,to'⟩ ⟨hl,hgo⟩;dsimp only at hl hgo;dsimp only[x203_0,x203_0d];simp only[↓hcsRw,go_sem];try simp only[td,reduceCtorEq]
  have go:0≤to'∧to'<L.length→(((out.length:Int)=0→¬(L.getD to'.toNat (0,0)).1= -1))→wayR L A to []=wayGo L A (L.length-out.length) to' out:=by
   intro h1 h2;rw[←hgo,wayR,if_neg];rintro (h3|h3|⟨h3,h4⟩)
   ·omega
   ·omega
   ·exact h2 (by rw[h3];rfl) h4
  refine ⟨fun h=>?_,fun h=>⟨h.1,fun h1=>?_,fun h1=>⟨fun h2=>?_,fun h2=>⟨fun h3=>?_,fun h3=>⟨h3.1,fun h4=>?_,fun h4=>⟨by omega,h3.1,((L.getD to'.toNat (0,0)).2::out,(A.getD (L.getD to'.toNat (0,0)).2.toNat (0,0,[],[])).1),?_,⟨?_,?_⟩,rfl,rfl⟩⟩⟩⟩⟩⟩
  ·rw[←hgo,wayR,if_pos];rcases h with (h|h)|h
   ·exact .inl h
   ·exact .inr (.inl h)
   ·omega
  ·rw[←hgo,wayR,if_pos (.inr (.inr ⟨List.length_eq_zero_iff.1 (Int.ofNat_inj.1 h1.1),h1.2⟩))]
  ·rw[go h.1 h1];cases L.length-out.length<;>rw[wayGo,if_pos h2]
  ·rw[go h.1 h1];by_cases c:out.length=L.length
   ·rw[c,Nat.sub_self,wayGo,if_neg h2]
   ·obtain ⟨f,hf⟩:∃f,L.length-out.length=f+1:=⟨L.length-out.length-1,by omega⟩;rw[hf,wayGo,if_neg h2,if_pos];rcases h3 with (h3|h3)|h3
    ·exact .inl h3
    ·exact .inr (.inl h3)
    ·exact absurd h3 c
  ·rw[go h.1 h1];obtain ⟨f,hf⟩:∃f,L.length-out.length=f+1:=⟨L.length-out.length-1,by omega⟩;rw[hf,wayGo,if_neg h2,if_pos (.inr (.inr (.inl h4)))]
  ·dsimp only[List.length_cons];omega
  ·dsimp only[List.length_cons];omega
  ·rw[go h.1 h1];obtain ⟨f,hf⟩:∃f,L.length-out.length=f+1:=⟨L.length-out.length-1,by omega⟩;dsimp only;rw[hf,wayGo,if_neg h2,wayR,List.length_cons,show L.length-(out.length+1)=f by omega];by_cases c:(A.getD (L.getD to'.toNat (0,0)).2.toNat (0,0,[],[])).1<0∨L.length≤(A.getD (L.getD to'.toNat (0,0)).2.toNat (0,0,[],[])).1
   ·rw[if_pos (c.elim .inl (fun c=>.inr (.inl c))),if_pos (c.elim (fun c=>.inr (.inr (.inr (.inl c)))) (fun c=>.inr (.inr (.inr (.inr c)))))]
   ·rw[not_or] at c;have n1:¬(L.getD to'.toNat (0,0)).2<0:=Int.not_lt.2 h3.1.1;have n2:¬(A.length:Int)≤(L.getD to'.toNat (0,0)).2:=Int.not_le.2 h3.1.2;rw[if_neg (fun q=>q.elim c.1 (fun q=>q.elim c.2 (fun q=>List.cons_ne_nil _ _ q.1))),if_neg (fun q=>q.elim n1 (fun q=>q.elim n2 (fun q=>q.elim (fun q=>q h4) (fun q=>q.elim c.1 c.2))))]
end T
end Go.Proofs.YtpocfbfmjippnaaGreat
end
