/- Parts of the proof of the law; no condition. -/
import Derived.Test.YtpocfbfmjippnaaGreatH31
set_option linter.all false
section
namespace Go.Proofs.YtpocfbfmjippnaaGreat
open Go.RowKit Go.IntWalk
namespace T
def powF (n:Int):Nat→Int
 |0=>1
 |k+1=>powF n k*n
theorem powF_rng {n:Int} (h0:0≤n) (h1:n≤4):∀k,k≤4→0≤powF n k∧powF n k≤4^k
 |0,_=>⟨by show (0:Int)≤1;decide,by show (1:Int)≤1;decide⟩
 |k+1,hk=>by
  obtain ⟨a,b⟩:=powF_rng h0 h1 k (by omega);show 0≤powF n k*n∧powF n k*n≤4^(k+1);rw[Int.pow_succ];exact ⟨Int.mul_nonneg a h0,Int.mul_le_mul b h1 h0 (Int.le_trans a b)⟩
def entPow:Ent:=⟨113,.cons Z1 (.cons Z1 .nil),(.int .i64),false,none,fun x=>(0≤(x.1:Int)∧(x.1:Int)≤4)∧0≤(x.2.1:Int)∧(x.2.1:Int)≤4,fun x=>powF x.1 (Int.toNat x.2.1)⟩
def csPow:List Ent:=[] theorem hcsPow (f:FuncId):findEnt csPow f=findEnt [] f:=rfl
theorem conPow:Con Tryz.prog entPow:=by
 refine con_is (C:=csPow) x113 (by kernel_rfl) (by simp[csPow]) fun x hx hf=>?_;obtain ⟨(n:Int),(b:Int),_⟩:=x;obtain ⟨⟨hn0,hn1⟩,hb0,hb1⟩:(0≤n∧n≤4)∧0≤b∧b≤4:=hx;obtain ⟨m,rfl⟩:∃m:Nat,b=m:=⟨b.toNat,by omega⟩;dsimp only[entPow,x113];simp only[↓hcsPow,undef,go_sem];try simp only[td,reduceCtorEq]
 have hr:=powF_rng hn0 hn1;refine XW_for 1000 x113_0d [] Nat (fun j=>[(7,.val Z1 (j:Int)),(5,.val Z1 (powF n j))]) (fun _=>[]) (fun j=>j≤m) (fun j=>m-j) 0 ?_ ?_ ?_
 ·dsimp only[x113_0d];simp only[go_sem];first|done|exact ⟨rfl,rfl⟩|rfl
 ·exact Nat.zero_le _
 intro j hj;dsimp only[x113_0,x113_0d];by_cases hj':j<m
 case neg=>
  obtain rfl:j=m:=by omega
  simp only[↓hcsPow,undef,hj',go_sem];try simp only[hj',td,reduceCtorEq]
 have w1:IntKind.i64.wrap ((j:Int)+1)=((j+1:Nat):Int):=i64_in _ (by omega);have h2:=hr (j+1) (by omega);have h4:(4:Int)^(j+1)≤256:=by
  rcases (by omega:j=0∨j=1∨j=2∨j=3) with rfl|rfl|rfl|rfl<;>decide
 have w2:IntKind.i64.wrap (powF n j*n)=powF n (j+1):=i64_in _ (by show _≤powF n (j+1)∧powF n (j+1)≤_;omega);simp only[↓hcsPow,undef,hj',w1,w2,go_sem];try simp only[hj',w1,w2,td,reduceCtorEq]
 exact ⟨j+1,by omega,by omega,rfl,rfl⟩
def entFst:Ent:=⟨49,.cons Z1 .nil,(.int .i64),false,none,fun _=>True,fun x=>if (x.1:Int)=0 then-1 else 0⟩
def csFst:List Ent:=[] theorem hcsFst (f:FuncId):findEnt csFst f=findEnt [] f:=rfl
theorem conFst:Con Tryz.prog entFst:=by
 refine con_is (C:=csFst) x49 (by kernel_rfl) (by simp[csFst]) fun x hx hf=>?_;obtain ⟨(n:Int),_⟩:=x;dsimp only[entFst,x49];by_cases h:n=0<;>
 ·simp only[↓hcsFst,undef,h,go_sem];try simp only[h,td,reduceCtorEq]
def entCpF:Ent:=⟨68,.cons Z23 .nil,Z23,false,some 65,fun x=>List.length (α:=DPlan) x.1≤1000000,fun x=>x.1⟩
def csCpF:List Ent:=[] theorem hcsCpF (f:FuncId):findEnt csCpF f=findEnt [] f:=rfl
theorem conCpF:Con Tryz.prog entCpF:=by
 refine con_is (C:=csCpF) x68 (by kernel_rfl) (by simp[csCpF]) fun x hx hf=>?_;obtain ⟨(S:List DPlan),_⟩:=x;have hS:S.length≤1000000:=hx;dsimp only[entCpF,x68];simp only[↓hcsCpF,go_sem];try simp only[td,reduceCtorEq]
 exact ⟨fun q=>q.symm,by omega⟩
def entCpD:Ent:=⟨68,.cons Z23 .nil,Z23,false,none,fun x=>List.length (α:=DPlan) x.1≤1000000,fun x=>x.1⟩
def csCpD:List Ent:=[] theorem hcsCpD (f:FuncId):findEnt csCpD f=findEnt [] f:=rfl
theorem conCpD:Con Tryz.prog entCpD:=by
 refine con_is (C:=csCpD) x68 (by kernel_rfl) (by simp[csCpD]) fun x hx hf=>?_;obtain ⟨(S:List DPlan),_⟩:=x;have hS:S.length≤1000000:=hx;dsimp only[entCpD,x68];simp only[↓hcsCpD,go_sem];try simp only[td,reduceCtorEq]
 exact ⟨fun q=>q.symm,by omega⟩
def entCiF:Ent:=⟨67,.cons Z5 .nil,Z5,false,some 3,fun x=>List.length (α:=Int) x.1≤1000000,fun x=>x.1⟩
def csCiF:List Ent:=[] theorem hcsCiF (f:FuncId):findEnt csCiF f=findEnt [] f:=rfl
theorem conCiF:Con Tryz.prog entCiF:=by
 refine con_is (C:=csCiF) x67 (by kernel_rfl) (by simp[csCiF]) fun x hx hf=>?_;obtain ⟨(S:List Int),_⟩:=x;have hS:S.length≤1000000:=hx;dsimp only[entCiF,x67];simp only[↓hcsCiF,go_sem];try simp only[td,reduceCtorEq]
 exact ⟨fun q=>q.symm,by omega⟩
def entCiD:Ent:=⟨67,.cons Z5 .nil,Z5,false,none,fun x=>List.length (α:=Int) x.1≤1000000,fun x=>x.1⟩
def csCiD:List Ent:=[] theorem hcsCiD (f:FuncId):findEnt csCiD f=findEnt [] f:=rfl
theorem conCiD:Con Tryz.prog entCiD:=by
 refine con_is (C:=csCiD) x67 (by kernel_rfl) (by simp[csCiD]) fun x hx hf=>?_;obtain ⟨(S:List Int),_⟩:=x;have hS:S.length≤1000000:=hx;dsimp only[entCiD,x67];simp only[↓hcsCiD,go_sem];try simp only[td,reduceCtorEq]
 exact ⟨fun q=>q.symm,by omega⟩
def entCsD:Ent:=⟨57,.cons Z15 .nil,Z15,false,none,fun x=>List.length (α:=DStop) x.1≤1000000,fun x=>x.1⟩
def csCsD:List Ent:=[] theorem hcsCsD (f:FuncId):findEnt csCsD f=findEnt [] f:=rfl
theorem conCsD:Con Tryz.prog entCsD:=by
 refine con_is (C:=csCsD) x57 (by kernel_rfl) (by simp[csCsD]) fun x hx hf=>?_;obtain ⟨(S:List DStop),_⟩:=x;have hS:S.length≤1000000:=hx;dsimp only[entCsD,x57];simp only[↓hcsCsD,go_sem];try simp only[td,reduceCtorEq]
 exact ⟨fun q=>q.symm,by omega⟩
def entCgD:Ent:=⟨71,.cons Z9 .nil,Z9,false,none,fun x=>List.length (α:=DLeg) x.1≤1000000,fun x=>x.1⟩
def csCgD:List Ent:=[] theorem hcsCgD (f:FuncId):findEnt csCgD f=findEnt [] f:=rfl
theorem conCgD:Con Tryz.prog entCgD:=by
 refine con_is (C:=csCgD) x71 (by kernel_rfl) (by simp[csCgD]) fun x hx hf=>?_;obtain ⟨(S:List DLeg),_⟩:=x;have hS:S.length≤1000000:=hx;dsimp only[entCgD,x71];simp only[↓hcsCgD,go_sem];try simp only[td,reduceCtorEq]
 exact ⟨fun q=>q.symm,by omega⟩
def entCop:Ent:=⟨37,.cons Z23 .nil,Z23,false,none,fun x=>List.length (α:=DPlan) x.1≤1000∧∀p∈(x.1:List DPlan),p.2.1.length≤1000000∧p.2.2.1.length≤1000000∧p.2.2.2.length≤1000000,fun x=>x.1⟩
def csCop:List Ent:=[entCsD,entCgD,entCiD] theorem hcsCop (f:FuncId):findEnt csCop f=findEnt [entCsD,entCgD,entCiD] f:=rfl
theorem conCop:Con Tryz.prog entCop:=by
 refine con_is (C:=csCop) x37 (by kernel_rfl) (by simp[csCop,conCsD,conCgD,conCiD]) fun x hx hf=>?_;obtain ⟨(ps:List DPlan),_⟩:=x;obtain ⟨hl,hp⟩:ps.length≤1000∧∀p∈ps,p.2.1.length≤1000000∧p.2.2.1.length≤1000000∧p.2.2.2.length≤1000000:=hx;dsimp only[entCop,x37];simp only[↓hcsCop,entCsD,entCgD,entCiD,undef,go_sem];try simp only[td,reduceCtorEq]
 refine XW_for 1000 x37_0d [] Nat (fun j=>[(8,.val Z1 (j:Int)),(3,.own 1)]) (fun j=>[(1,.row 65 Z22 (ps.take j))]) (fun j=>j≤ps.length) (fun j=>ps.length-j) 0 ?_ ?_ ?_
 ·dsimp only[x37_0d];simp only[go_sem];first|done|exact ⟨rfl,rfl⟩|rfl
 ·exact Nat.zero_le _
 intro j hj;dsimp only[x37_0,x37_0d];by_cases hj':j<ps.length
 case neg=>
  obtain rfl:j=ps.length:=by omega
  rw[List.take_length];simp only[↓hcsCop,undef,hj',go_sem];try simp only[hj',td,reduceCtorEq]
 have w1:IntKind.i64.wrap ((j:Int)+1)=((j+1:Nat):Int):=i64_in _ (by omega);have hB:((ps.take j).length+1)*80≤140737488355328:=by rw[List.length_take];omega
 have ht:=take_nx (d:=dPln) hj';have hm:=hp (ps.getD j dPln) (by simp[List.getD,hj']);obtain ⟨⟨c,ss,L,G⟩,hP⟩:∃p:DPlan,ps.getD j (0,[],[],[])=p:=⟨_,rfl⟩;dsimp only[dPln] at ht hm;rw[hP] at ht hm;obtain ⟨m1,m2,m3⟩:=hm;dsimp only at m1 m2 m3;simp only[↓hcsCop,entCsD,entCgD,entCiD,undef,hj',w1,hP,hB,m1,m2,m3,go_sem];try simp only[hj',w1,hP,hB,m1,m2,m3,td,reduceCtorEq]
 exact ⟨j+1,by omega,by omega,rfl,ht.symm⟩
end T
end Go.Proofs.YtpocfbfmjippnaaGreat
end
section
namespace Go.Proofs.YtpocfbfmjippnaaGreat
namespace T
theorem kid_at (w:DWorld) (hn:Nat) (go:List Int→List DPlan→DRep→DRep) (to:List Int) (q:Int) (n:Nat) (ps:List DPlan) (a:DRep):∃B:Nat→DRep,B 0=a∧(∀k:Nat,B (k+1)=kidF w hn go to q n ps (B k) k)∧(List.range hn).foldl (kidF w hn go to q n ps) a=B hn:=by
 refine ⟨fun k=>(List.range k).foldl (kidF w hn go to q n ps) a,rfl,fun k=>?_,rfl⟩;show (List.range (k+1)).foldl _ a=_;rw[List.range_succ,List.foldl_append];rfl
structure OkA (m:Nat) (a:DRep):Prop where
 best:∀x,a.1=some x→x.1.length=m
 fails:∀c∈a.2,c.1.length=m
theorem OkA.zero (m:Nat):OkA m (none,[]):=⟨fun x h=>(by cases h),fun c h=>absurd h (by simp)⟩
theorem OkA.leaf {m:Nat} {a:DRep} (h:OkA m a) {to:List Int} (ht:to.length=m) (ps:List DPlan) (n:Int):OkA m (leafR to ps n a.1,a.2):=by
 refine ⟨fun x hx=>?_,h.fails⟩;dsimp only at hx;unfold leafR at hx;cases hb:a.1 with
 |none=>rw[hb] at hx;cases hx;exact ht
 |some y=>
  rw[hb] at hx;dsimp only at hx;split at hx
  ·cases hx;exact ht
  ·cases hx;exact h.best _ hb
theorem ch_len (h:Nat):∀n,(chF h n).length=(h+1)^n
 |0=>rfl
 |n+1=>by
  have e:∀l:List Int,(l.flatMap fun t=>(chF h n).map (t:: ·)).length=l.length*(chF h n).length:=by
   intro l;induction l with
   |nil=>simp
   |cons t r ih=>rw[List.flatMap_cons,List.length_append,List.length_map,ih,List.length_cons,Nat.succ_mul,Nat.add_comm]
  show ((digF h).flatMap fun t=>(chF h n).map (t:: ·)).length=_
  rw[e,ch_len h n];unfold digF;rw[List.length_append,List.length_map,List.length_range,List.length_singleton,Nat.pow_succ,Nat.mul_comm]
theorem OkA.fail {m:Nat} {a:DRep} (h:OkA m a) (hn n:Nat) {to:List Int} (k:Int) (i:Int) (ht:to.length+1+n=m):OkA m (a.1,a.2++(chF hn n).map fun r=>(to++k::r,i)):=by
 refine ⟨h.best,fun c hc=>?_⟩;rcases List.mem_append.1 hc with hc|hc
 ·exact h.fails c hc
 ·obtain ⟨r,hr,rfl⟩:=List.mem_map.1 hc;have:=(mem_ch.1 hr).1;rw[List.length_append,List.length_cons];omega
theorem OkA.kid {m:Nat} {w:DWorld} {hn:Nat} {go:List Int→List DPlan→DRep→DRep} {to:List Int} {q:Int} {n:Nat} {ps:List DPlan} (ht:to.length+1+n=m) (hg:∀t p a,t.length+n=m→OkA m a→OkA m (go t p a)) {a:DRep} (h:OkA m a) (k:Nat):OkA m (kidF w hn go to q n ps a k):=by
 unfold kidF;split
 ·exact h.fail hn n k _ ht
 ·exact hg _ _ _ (by rw[List.length_append,List.length_singleton];exact ht) h
theorem OkA.fold {α:Type} {m:Nat} {f:DRep→α→DRep} (hf:∀a x,OkA m a→OkA m (f a x)):∀(l:List α) (a:DRep),OkA m a→OkA m (l.foldl f a)
 |[],a,h=>h
 |x::l,a,h=>OkA.fold hf l _ (hf a x h)
theorem OkA.look {m:Nat} (w:DWorld) (hn:Nat):∀(o to:List Int) (ps:List DPlan) (a:DRep),to.length+o.length=m→OkA m a→OkA m (lookF w hn o to ps a)
 |[],to,ps,a,ht,h=>h.leaf (by simpa using ht) _ _
 |q::o,to,ps,a,ht,h=>by
  rw[List.length_cons] at ht;show OkA m (lookF w hn o (to++[-1]) ps _);refine OkA.look w hn o _ _ _ (by rw[List.length_append,List.length_singleton];omega) (OkA.fold (fun a k h=>?_) _ _ h);exact OkA.kid (by omega) (fun t p a ht h=>OkA.look w hn o t p a ht h) h k
theorem kid_len {w:DWorld} {hn:Nat} {go:List Int→List DPlan→DRep→DRep} {to:List Int} {q:Int} {n:Nat} {ps:List DPlan} (hg:∀t p a,(go t p a).2.length≤a.2.length+(hn+1)^n) (a:DRep) (k:Nat):(kidF w hn go to q n ps a k).2.length≤a.2.length+(hn+1)^n:=by
 unfold kidF;split
 ·dsimp only;rw[List.length_append,List.length_map,ch_len];exact Nat.le_refl _
 ·exact hg _ _ _
theorem fold_len {α:Type} {f:DRep→α→DRep} {c:Nat} (hf:∀a x,(f a x).2.length≤a.2.length+c):∀(l:List α) (a:DRep),(l.foldl f a).2.length≤a.2.length+l.length*c
 |[],a=>by simp
 |x::l,a=>by
  have h1:=fold_len hf l (f a x);have h2:=hf a x;rw[List.foldl_cons,List.length_cons,Nat.succ_mul];omega
theorem look_len (w:DWorld) (hn:Nat):∀(o to:List Int) (ps:List DPlan) (a:DRep),(lookF w hn o to ps a).2.length≤a.2.length+(hn+1)^o.length
 |[],to,ps,a=>by show a.2.length≤_;omega
 |q::o,to,ps,a=>by
  show (lookF w hn o (to++[-1]) ps _).2.length≤_;have h1:=look_len w hn o (to++[-1]) ps ((List.range hn).foldl (kidF w hn (lookF w hn o) to q o.length ps) a);have h2:=fold_len (kid_len (w:=w) (hn:=hn) (to:=to) (q:=q) (ps:=ps) (look_len w hn o)) (List.range hn) a;rw[List.length_range] at h2;rw[List.length_cons,Nat.pow_succ];have e:hn*(hn+1)^o.length+(hn+1)^o.length=(hn+1)^o.length*(hn+1):=by rw[Nat.mul_succ,Nat.mul_comm]
  omega
theorem best_bad {w:DWorld} {ps:List DPlan} {b:Int} {o:List Int} (h:rightR38 w ps b o=false):bestR w ps b o=([],[],[],1):=by unfold bestR;rw[if_pos h]
theorem best_full {w:DWorld} {ps:List DPlan} {b:Int} {o:List Int} (h:rightR38 w ps b o=true) (hf:4<o.length∨3<(helpF ps b).length):bestR w ps b o=([],[],[],6):=by
 unfold bestR;rw[if_neg (by rw[h];decide),if_pos hf]
theorem best_ok {w:DWorld} {ps:List DPlan} {b:Int} {o:List Int} (h:rightR38 w ps b o=true) (hf:¬(4<o.length∨3<(helpF ps b).length)):∃x F,scanR w (helpF ps b) o=(some x,F)∧bestR w ps b o=(x.2.1,lostF o x.1,F.filter fun c=>decide (lessR c.1 x.1<0),0):=by
 obtain ⟨x,hx⟩:=scan_best w (helpF ps b) o;refine ⟨x,(scanR w (helpF ps b) o).2,Prod.ext hx rfl,?_⟩;unfold bestR;rw[if_neg (by rw[h];decide),if_neg hf,hx]
theorem bst_len {w:DWorld} {p:DPlan} {q:Int} (h:(bstP w p q).2=0):(bstP w p q).1.2.1.length=p.2.1.length+2∧checkP w (bstP w p q).1=0:=by
 obtain ⟨a,b,hab,hb,_,h2,h3⟩:=bst_ok h;rw[h3,stopsI_length hab hb];exact ⟨rfl,h2⟩
def dropC (b:List Int) (c:DCase):Bool:=decide (lessP c.1 b≥0)
def keepC (b:List Int) (L:List DCase):List DCase:=L.filter fun c=>!dropC b c
theorem keep_eq (b:List Int) (L:List DCase):(L.filter fun c=>decide (lessR c.1 b<0))=keepC b L:=by
 unfold keepC;refine List.filter_congr fun c _=>?_;have:=(less_sign c.1 b).1;unfold dropC;by_cases h:lessP c.1 b<0
 ·rw[decide_eq_true (this.1 h),decide_eq_false (by omega)];rfl
 ·rw[decide_eq_false (fun z=>h (this.2 z)),decide_eq_true (by omega)];rfl
theorem keep_at {b:List Int} {L:List DCase} {j:Nat} (h:j<L.length):keepC b (L.take (j+1))=if dropC b (L.getD j dCase)=true then keepC b (L.take j) else keepC b (L.take j)++[L.getD j dCase]:=by
 unfold keepC;rw[take_nx (d:=dCase) h,List.filter_append];cases c:dropC b (L.getD j dCase) with
 |true=>rw[if_pos rfl,fil0 (P:=fun c=>!dropC b c) (by rw[c];rfl),List.append_nil]
 |false=>rw[if_neg (by decide),fil1 (P:=fun c=>!dropC b c) (by rw[c];rfl)]
theorem keep_len (b:List Int) (L:List DCase):(keepC b L).length≤L.length:=List.length_filter_le _ _
theorem keep_none {b:List Int} {L:List DCase} (h:∀j,j<L.length→dropC b (L.getD j dCase)=false):keepC b L=L:=by
 unfold keepC;refine List.filter_eq_self.2 fun c hc=>?_;obtain ⟨j,hj,rfl⟩:=List.getElem_of_mem hc;have:=h j hj;rw[show L.getD j dCase=L[j] by simp[List.getD,hj]] at this;rw[this];rfl
end T
end Go.Proofs.YtpocfbfmjippnaaGreat
end
