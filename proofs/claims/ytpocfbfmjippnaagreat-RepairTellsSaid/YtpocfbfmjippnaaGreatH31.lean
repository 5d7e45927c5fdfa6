/- Parts of the proof of the law; no condition. -/
import Derived.Test.YtpocfbfmjippnaaGreatH30
set_option linter.all false
section
namespace Go.Proofs.YtpocfbfmjippnaaGreat
namespace T
theorem fil1 {α:Type} {P:α→Bool} {x:α} (h:P x=true):[x].filter P=[x]:=by rw[List.filter_cons_of_pos h,List.filter_nil]
theorem fil0 {α:Type} {P:α→Bool} {x:α} (h:P x=false):[x].filter P=[]:=by rw[List.filter_cons_of_neg (by rw[h];decide),List.filter_nil]
def lenS:List DPlan→Int
 |[]=>0
 |p::r=>(p.2.1.length:Int)+lenS r
theorem lenS_set:∀(l:List DPlan) (t:Nat) (X:DPlan),t<l.length→lenS (l.set t X)+((l.getD t dPln).2.1.length:Int)=lenS l+(X.2.1.length:Int)
 |[],t,X,h=>by simp at h
 |x::l,0,X,_=>by
  show (X.2.1.length:Int)+lenS l+(x.2.1.length:Int)=(x.2.1.length:Int)+lenS l+(X.2.1.length:Int);omega
 |x::l,t+1,X,h=>by
  have:=lenS_set l t X (by simpa using h);show (x.2.1.length:Int)+lenS (l.set t X)+((l.getD t dPln).2.1.length:Int)=(x.2.1.length:Int)+lenS l+(X.2.1.length:Int);omega
theorem play_lenS (w:DWorld):∀(o to:List Int) (ps:List DPlan) (i:Int),0≤i→to.length=o.length→(∀t∈to,t<(ps.length:Int))→(playR w ps o to i).2<0→lenS (playR w ps o to i).1=lenS ps+2*((o.length:Int)-lostN to)
 |[],[],ps,i,_,_,_,h=>by
  unfold playR;show lenS ps=lenS ps+2*(((0:Nat):Int)-0);omega
 |[],t::to,ps,i,_,hl,_,_=>by simp at hl
 |q::o,[],ps,i,_,hl,_,_=>by simp at hl
 |q::o,t::to,ps,i,hi,hl,ht,h=>by
  have hl':to.length=o.length:=by simpa using hl
  have ht0:=ht t (.head _);have hr:∀x∈to,x<(ps.length:Int):=fun x hx=>ht x (.tail _ hx);unfold playR at h⊢;have e:lostN (t::to)=lostN to+if t<0 then 1 else 0:=rfl
  rw[e,List.length_cons];by_cases c:t<0
  ·rw[if_pos c] at h⊢;rw[if_pos c,play_lenS w o to ps (i+1) (by omega) hl' hr h];omega
  ·rw[if_neg c] at h⊢;rw[if_neg c];by_cases d:(bstP w (ps.getD t.toNat dPln) q).2≠0
   ·rw[if_pos d] at h;have h:i<0:=h;omega
   ·rw[if_neg d] at h⊢;rw[play_lenS w o to _ (i+1) (by omega) hl' (fun x hx=>by rw[List.length_set];exact hr x hx) h];have h1:=lenS_set ps t.toNat (bstP w (ps.getD t.toNat dPln) q).1 (by omega);obtain ⟨a,b,hab,hbl,_,_,b3⟩:=bst_ok (Decidable.not_not.1 d);have h2:=stopsI_length (r:=q) hab hbl;rw[b3,h2] at h1;omega
theorem getD_mem {o:List Int} {k:Nat} (h:k<o.length):o.getD k 0∈o:=by
 rw[show o.getD k 0=o[k] by simp[List.getD,h]];exact List.getElem_mem h
theorem take_nx {α:Type} {d:α} {l:List α} {j:Nat} (h:j<l.length):l.take (j+1)=l.take j++[l.getD j d]:=by
 rw[List.take_succ_eq_append_getElem h];simp[List.getD,h]
theorem helpF_at {ps:List DPlan} {b:Int} {j:Nat} (h:j<ps.length):helpF (ps.take (j+1)) b=if (ps.getD j dPln).1=b then helpF (ps.take j) b else helpF (ps.take j) b++[ps.getD j dPln]:=by
 unfold helpF;rw[take_nx (d:=dPln) h,List.filter_append];by_cases c:(ps.getD j dPln).1=b
 ·rw[if_pos c,fil0 (P:=fun p:DPlan=>decide (p.1≠b)) (decide_eq_false fun z=>z c),List.append_nil]
 ·rw[if_neg c,fil1 (P:=fun p:DPlan=>decide (p.1≠b)) (decide_eq_true c)]
theorem helpF_len (ps:List DPlan) (b:Int):(helpF ps b).length≤ps.length:=List.length_filter_le _ _
theorem mem_helpF {ps:List DPlan} {b:Int} {p:DPlan}:p∈helpF ps b↔p∈ps∧p.1≠b:=by unfold helpF;rw[List.mem_filter,decide_eq_true_eq]
theorem lost_at {a:List Int} {j:Nat} (h:j<a.length):lostN (a.take (j+1))=lostN (a.take j)+if a.getD j 0<0 then 1 else 0:=by
 rw[take_nx (d:=0) h,lost_app];show _=lostN (a.take j)+_;congr 1;show (0:Int)+(if a.getD j 0<0 then 1 else 0)=_;rw[Int.zero_add]
theorem frst_app:∀(a b c d:List Int),a.length=b.length→frstL (a++c) (b++d)=if frstL a b=0 then frstL c d else frstL a b
 |[],[],c,d,_=>by
  rw[List.nil_append,List.nil_append];show frstL c d=if (0:Int)=0 then frstL c d else 0
  rw[if_pos rfl]
 |[],y::b,c,d,h=>by simp at h
 |x::a,[],c,d,h=>by simp at h
 |x::a,y::b,c,d,h=>by
  have ih:=frst_app a b c d (by simpa using h);have e:∀p q:List Int,frstL (x::p) (y::q)=if x<0∧0≤y then 1 else if 0≤x∧y<0 then-1 else frstL p q:=fun p q=>rfl
  rw[List.cons_append,List.cons_append,e,e];by_cases c1:x<0∧0≤y
  ·rw[if_pos c1,if_pos c1,if_neg (by decide)]
  ·rw[if_neg c1,if_neg c1];by_cases c2:0≤x∧y<0
   ·rw[if_pos c2,if_pos c2,if_neg (by decide)]
   ·rw[if_neg c2,if_neg c2];exact ih
theorem frst_at {a b:List Int} {j:Nat} (h:j<a.length) (h':j<b.length):frstL (a.take (j+1)) (b.take (j+1))=if frstL (a.take j) (b.take j)=0 then (if a.getD j 0<0∧0≤b.getD j 0 then 1 else if 0≤a.getD j 0∧b.getD j 0<0 then-1 else 0) else frstL (a.take j) (b.take j):=by
 rw[take_nx (d:=0) h,take_nx (d:=0) h',frst_app _ _ _ _ (by rw[List.length_take,List.length_take];omega)];rfl
def lostT (o b:List Int) (n:Nat):List Int:=((List.range n).filter fun i=>decide (b.getD i 0<0)).map fun i=>o.getD i 0
theorem lostT_at (o b:List Int) (n:Nat):lostT o b (n+1)=if b.getD n 0<0 then lostT o b n++[o.getD n 0] else lostT o b n:=by
 unfold lostT;rw[List.range_succ,List.filter_append,List.map_append];by_cases c:b.getD n 0<0
 ·rw[if_pos c,fil1 (P:=fun i:Nat=>decide (b.getD i 0<0)) (decide_eq_true c)];rfl
 ·rw[if_neg c,fil0 (P:=fun i:Nat=>decide (b.getD i 0<0)) (decide_eq_false c),List.map_nil,List.append_nil]
theorem lostT_all (o b:List Int):lostT o b o.length=lostF o b:=rfl
theorem lostT_len (o b:List Int) (n:Nat):(lostT o b n).length≤n:=by
 unfold lostT;rw[List.length_map];exact Nat.le_trans (List.length_filter_le _ _) (by rw[List.length_range];exact Nat.le_refl _)
theorem endsR_app (w:DWorld):∀a b:List DPlan,endsR w (a++b)=endsR w a+endsR w b
 |[],b=>by rw[List.nil_append];show _=0+_;omega
 |x::a,b=>by
  rw[List.cons_append];show (endP w x).1+endsR w (a++b)=(endP w x).1+endsR w a+endsR w b;rw[endsR_app w a b];omega
theorem endsR_at {w:DWorld} {ps:List DPlan} {j:Nat} (h:j<ps.length):endsR w (ps.take (j+1))=endsR w (ps.take j)+(endP w (ps.getD j dPln)).1:=by
 rw[take_nx (d:=dPln) h,endsR_app];show endsR w (ps.take j)+((endP w (ps.getD j dPln)).1+0)=_;omega
theorem endsR_rng (w:DWorld):∀l:List DPlan,0≤endsR w l∧endsR w l≤134217728*l.length
 |[]=>⟨Int.le_refl _,by show (0:Int)≤134217728*((0:Nat):Int);decide⟩
 |p::l=>by
  have h1:=endsR_rng w l;have h2:=end_rng w p;unfold endF at h2;show 0≤(endP w p).1+endsR w l∧(endP w p).1+endsR w l≤134217728*((l.length+1:Nat):Int);omega
theorem rightR_iff {w:DWorld} {ps:List DPlan} {b:Int} {o:List Int}:rightR38 w ps b o=true↔RightR w ps b o:=by unfold rightR38;exact decide_eq_true_iff
def GoodR (w:DWorld) (ps:List DPlan) (b:Int) (o:List Int) (n:Nat):Prop:=∀j,j<n→(checkP w (ps.getD j dPln)=0∧∀i,i<j→(ps.getD i dPln).1≠(ps.getD j dPln).1)∧((ps.getD j dPln).1≠b→∀s∈(ps.getD j dPln).2.1,s.1∉o)
def OrdR (w:DWorld) (o:List Int) (n:Nat):Prop:=∀j,j<n→(0≤o.getD j 0∧o.getD j 0<(w.2.2.2.1.length:Int))∧o.getD j 0∉o.take j
theorem GoodR.next {w:DWorld} {ps:List DPlan} {b:Int} {o:List Int} {n:Nat} (h:GoodR w ps b o n) (h1:checkP w (ps.getD n dPln)=0) (h2:∀i,i<n→(ps.getD i dPln).1≠(ps.getD n dPln).1) (h3:(ps.getD n dPln).1≠b→∀s∈(ps.getD n dPln).2.1,s.1∉o):GoodR w ps b o (n+1):=fun j hj=>by
 by_cases c:j=n
 ·subst c;exact ⟨⟨h1,h2⟩,h3⟩
 ·exact h j (by omega)
theorem OrdR.next {w:DWorld} {o:List Int} {n:Nat} (h:OrdR w o n) (h1:0≤o.getD n 0) (h2:o.getD n 0<(w.2.2.2.1.length:Int)) (h3:o.getD n 0∉o.take n):OrdR w o (n+1):=fun j hj=>by
 by_cases c:j=n
 ·subst c;exact ⟨⟨h1,h2⟩,h3⟩
 ·exact h j (by omega)
theorem rightR_no {w:DWorld} {ps:List DPlan} {b:Int} {o:List Int} (h:¬RightR w ps b o):rightR38 w ps b o=false:=by
 rw[←Bool.not_eq_true,rightR_iff];exact h
theorem rightR_yes {w:DWorld} {ps:List DPlan} {b:Int} {o:List Int} (h:RightR w ps b o):rightR38 w ps b o=true:=rightR_iff.2 h
end T
end Go.Proofs.YtpocfbfmjippnaaGreat
end
section
namespace Go.Proofs.YtpocfbfmjippnaaGreat
open Go.RowKit Go.IntWalk
namespace T
def entTimeR:Ent:=⟨225,.cons Z1 .nil,.bool,false,none,fun _=>True,fun x=>timeB x.1⟩
def csTq:List Ent:=[] theorem hcsTq (f:FuncId):findEnt csTq f=findEnt [] f:=rfl
theorem conTimeR:Con Tryz.prog entTimeR:=by
 refine con_is (C:=csTq) x225 (by kernel_rfl) (by simp[csTq]) fun x hx hf=>?_;obtain ⟨(t:Int),_⟩:=x;dsimp only[entTimeR,x225];simp only[↓hcsTq,go_sem];simp only[td,reduceCtorEq];unfold timeB;rw[Bool.eq_iff_iff,decide_eq_true_iff];simp[isTime]
def entNone:Ent:=⟨226,.cons Z1 .nil,Z9,false,some 263,fun x=>0≤x.1∧x.1≤2000,fun x=>List.replicate x.1.toNat ((-1:Int),(-1:Int))⟩
def csNo:List Ent:=[] theorem hcsNo (f:FuncId):findEnt csNo f=findEnt [] f:=rfl
theorem conNone:Con Tryz.prog entNone:=by
 refine con_is (C:=csNo) x226 (by kernel_rfl) (by simp[csNo]) fun x hx hf=>?_;obtain ⟨(n:Int),_⟩:=x;dsimp only[entNone,x226];simp only[↓hcsNo,go_sem];try simp only[td,reduceCtorEq]
 have h0:(0:Int)≤n∧n≤2000:=hx;obtain ⟨n,rfl⟩:∃m:Nat,n=m:=⟨n.toNat,by omega⟩;refine XW_for 1000 x226_0d [0] Nat (fun j=>[(3,.own 1),(4,.val Z1 (j:Int))]) (fun j=>[(1,.row 263 Z8 (List.replicate j ((-1:Int),(-1:Int))))]) (fun j=>j≤n) (fun j=>n-j) 0 ?_ ?_ ?_
 ·dsimp only[x226_0d];simp only[go_sem];exact rfl
 ·exact Nat.zero_le n
 ·intro j hj;have w2:IntKind.i64.wrap ((j:Int)+1)=((j+1:Nat):Int):=i64_in _ (by omega);dsimp only[x226_0,x226_0d];simp only[w2,↓hcsNo,go_sem];simp only[td,reduceCtorEq];refine ⟨fun h=>⟨?_,j+1,by omega,by omega,rfl,(List.replicate_succ' ..).symm⟩,fun h=>?_⟩
  ·rw[List.length_replicate];omega
  ·obtain rfl:j=n:=by omega
   rfl
def entLsR:Ent:=⟨25,.cons Z5 (.cons Z5 .nil),(.int .i64),false,none,fun x=>List.length (α:=Int) x.1≤1000∧List.length (α:=Int) x.2.1=List.length (α:=Int) x.1,fun x=>lessR x.1 x.2.1⟩
def csLsR:List Ent:=[] theorem hcsLsR (f:FuncId):findEnt csLsR f=findEnt [] f:=rfl
set_option maxHeartbeats 1000000 in
theorem conLsR:Con Tryz.prog entLsR:=by
 refine con_is (C:=csLsR) x25 (by kernel_rfl) (by simp[csLsR]) fun x hx hf=>?_;obtain ⟨(a:List Int),(b:List Int),_⟩:=x;obtain ⟨hl,hb⟩:a.length≤1000∧b.length=a.length:=hx;dsimp only[entLsR,x25];simp only[↓hcsLsR,undef,go_sem];try simp only[td,reduceCtorEq]
 have hr:=fun j=>lost_rng (a.take j);have hr':=fun j=>lost_rng (b.take j);refine XW_for 1000 x25_0d [] Nat (fun j=>[(8,.val Z1 (j:Int)),(5,.val Z1 (lostN (a.take j))),(6,.val Z1 (lostN (b.take j))),(7,.val Z1 (frstL (a.take j) (b.take j)))]) (fun _=>[]) (fun j=>j≤a.length) (fun j=>a.length-j) 0 ?_ ?_ ?_
 ·dsimp only[x25_0d];simp only[go_sem];first|done|exact ⟨rfl,rfl,rfl,rfl⟩|exact ⟨rfl,rfl,rfl⟩|exact ⟨rfl,rfl⟩|rfl
 ·exact Nat.zero_le _
 intro j hj;dsimp only[x25_0,x25_0d];by_cases hj':j<a.length
 case neg=>
  obtain rfl:j=a.length:=by omega
  rw[List.take_length,List.take_of_length_le (by omega:b.length≤a.length)];by_cases h0:lostN a<lostN b
  ·have hF:lessR a b= -1:=by unfold lessR;rw[if_pos h0]
   simp only[↓hcsLsR,undef,hj',h0,hF,go_sem];try simp only[hj',h0,hF,td,reduceCtorEq]
  ·by_cases h1:lostN b<lostN a
   ·have hF:lessR a b=1:=by unfold lessR;rw[if_neg h0,if_pos h1]
    have h2:lostN a>lostN b:=h1;simp only[↓hcsLsR,undef,hj',h0,h1,h2,hF,go_sem];try simp only[hj',h0,h1,h2,hF,td,reduceCtorEq]
   ·have hF:lessR a b=frstL a b:=by unfold lessR;rw[if_neg h0,if_neg h1]
    have h2:¬lostN a>lostN b:=h1;simp only[↓hcsLsR,undef,hj',h0,h1,h2,hF,go_sem];try simp only[hj',h0,h1,h2,hF,td,reduceCtorEq]
 have w1:IntKind.i64.wrap ((j:Int)+1)=((j+1:Nat):Int):=i64_in _ (by omega);have h1:=lost_at hj';have hjb:j<b.length:=by omega
 have h2:=lost_at hjb;have h3:=frst_at hj' hjb;have ra:=hr j;have rb:=hr' j;rw[List.length_take] at ra rb;obtain ⟨x,hX⟩:∃x,a.getD j 0=x:=⟨_,rfl⟩;obtain ⟨y,hY⟩:∃x,b.getD j 0=x:=⟨_,rfl⟩;rw[hX] at h1 h3;rw[hY] at h2 h3;generalize lostN (a.take j)=u at*;generalize lostN (b.take j)=v at*;generalize frstL (a.take j) (b.take j)=z at*;have wu:IntKind.i64.wrap (u+1)=u+1:=i64_in _ (by omega);have wv:IntKind.i64.wrap (v+1)=v+1:=i64_in _ (by omega);by_cases hx0:x<0
 ·rw[if_pos hx0] at h1;have hx1:¬x≥0:=by omega
  have hx2:¬0≤x:=by omega
  by_cases hy0:y<0
  ·rw[if_pos hy0] at h2;replace h3:frstL (a.take (j+1)) (b.take (j+1))=z:=by
    rw[h3];by_cases hz:z=0
    ·rw[if_pos hz,if_neg (by omega),if_neg (by omega),hz]
    ·rw[if_neg hz]
   have hy1:¬y≥0:=by omega
   have hy2:¬0≤y:=by omega
   have hz3:=h3;by_cases hz:z=0<;>
   ·simp only[↓hcsLsR,undef,hj',hjb,w1,wu,wv,hX,hY,hx0,hx1,hx2,hy0,hy1,hy2,hz,go_sem];try simp only[hj',hjb,w1,wu,wv,hX,hY,hx0,hx1,hx2,hy0,hy1,hy2,hz,td,reduceCtorEq]
    refine ⟨j+1,by omega,by omega,rfl,?_,?_,?_⟩
    ·rw[h1]
    ·rw[h2]
    ·rw[hz3];try exact hz.symm
  ·rw[if_neg hy0] at h2;replace h3:frstL (a.take (j+1)) (b.take (j+1))=if z=0 then 1 else z:=by
    rw[h3];by_cases hz:z=0
    ·rw[if_pos hz,if_pos hz,if_pos (by omega)]
    ·rw[if_neg hz,if_neg hz]
   have hy1:y≥0:=by omega
   have hy2:0≤y:=by omega
   by_cases hz:z=0
   ·rw[if_pos hz] at h3;simp only[↓hcsLsR,undef,hj',hjb,w1,wu,wv,hX,hY,hx0,hx1,hx2,hy0,hy1,hy2,hz,go_sem];try simp only[hj',hjb,w1,wu,wv,hX,hY,hx0,hx1,hx2,hy0,hy1,hy2,hz,td,reduceCtorEq]
    refine ⟨j+1,by omega,by omega,rfl,?_,?_,?_⟩
    ·rw[h1]
    ·rw[h2];try (show (_:Int)=_;omega)
    ·rw[h3]
   ·rw[if_neg hz] at h3;simp only[↓hcsLsR,undef,hj',hjb,w1,wu,wv,hX,hY,hx0,hx1,hx2,hy0,hy1,hy2,hz,go_sem];try simp only[hj',hjb,w1,wu,wv,hX,hY,hx0,hx1,hx2,hy0,hy1,hy2,hz,td,reduceCtorEq]
    refine ⟨j+1,by omega,by omega,rfl,?_,?_,?_⟩
    ·rw[h1]
    ·rw[h2];try (show (_:Int)=_;omega)
    ·rw[h3]
 ·rw[if_neg hx0] at h1;have hx1:x≥0:=by omega
  have hx2:0≤x:=by omega
  by_cases hy0:y<0
  ·rw[if_pos hy0] at h2;replace h3:frstL (a.take (j+1)) (b.take (j+1))=if z=0 then-1 else z:=by
    rw[h3];by_cases hz:z=0
    ·rw[if_pos hz,if_pos hz,if_neg (by omega),if_pos (by omega)]
    ·rw[if_neg hz,if_neg hz]
   have hy1:¬y≥0:=by omega
   have hy2:¬0≤y:=by omega
   by_cases hz:z=0
   ·rw[if_pos hz] at h3;simp only[↓hcsLsR,undef,hj',hjb,w1,wu,wv,hX,hY,hx0,hx1,hx2,hy0,hy1,hy2,hz,go_sem];try simp only[hj',hjb,w1,wu,wv,hX,hY,hx0,hx1,hx2,hy0,hy1,hy2,hz,td,reduceCtorEq]
    refine ⟨j+1,by omega,by omega,rfl,?_,?_,?_⟩
    ·rw[h1];try (show (_:Int)=_;omega)
    ·rw[h2]
    ·rw[h3]
   ·rw[if_neg hz] at h3;simp only[↓hcsLsR,undef,hj',hjb,w1,wu,wv,hX,hY,hx0,hx1,hx2,hy0,hy1,hy2,hz,go_sem];try simp only[hj',hjb,w1,wu,wv,hX,hY,hx0,hx1,hx2,hy0,hy1,hy2,hz,td,reduceCtorEq]
    refine ⟨j+1,by omega,by omega,rfl,?_,?_,?_⟩
    ·rw[h1];try (show (_:Int)=_;omega)
    ·rw[h2]
    ·rw[h3]
  ·rw[if_neg hy0] at h2;replace h3:frstL (a.take (j+1)) (b.take (j+1))=z:=by
    rw[h3];by_cases hz:z=0
    ·rw[if_pos hz,if_neg (by omega),if_neg (by omega),hz]
    ·rw[if_neg hz]
   have hy1:y≥0:=by omega
   have hy2:0≤y:=by omega
   have hz3:=h3;by_cases hz:z=0<;>
   ·simp only[↓hcsLsR,undef,hj',hjb,w1,wu,wv,hX,hY,hx0,hx1,hx2,hy0,hy1,hy2,hz,go_sem];try simp only[hj',hjb,w1,wu,wv,hX,hY,hx0,hx1,hx2,hy0,hy1,hy2,hz,td,reduceCtorEq]
    refine ⟨j+1,by omega,by omega,rfl,?_,?_,?_⟩
    ·rw[h1];try (show (_:Int)=_;omega)
    ·rw[h2];try (show (_:Int)=_;omega)
    ·rw[hz3];try exact hz.symm
end T
end Go.Proofs.YtpocfbfmjippnaaGreat
end
