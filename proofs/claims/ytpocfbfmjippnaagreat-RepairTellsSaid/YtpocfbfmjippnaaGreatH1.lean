/- Parts of the proof of the law; no condition. -/
import Derived.Below
import Derived.BigQuiet
import Derived.Laws.NewBlocks
import Derived.Lib.Hide
import Derived.OpenShut
import Derived.Outline
import Derived.ProofKit
import Derived.Test.YtpocfbfmjippnaaGreatRows
import Derived.WalkKit
import Derived.WalkSmall
set_option linter.all false
section
namespace Go.Proofs.YtpocfbfmjippnaaGreat
structure Arc where
 f:Int
 t:Int
 L:List Int
 H:List Int
def ok1 (L H:List Int) (h:Nat):Prop:=0≤L.getD h 0∧L.getD h 0≤H.getD h 0∧H.getD h 0≤600
def okTo (L H:List Int) (n:Nat):Prop:=∀h,h<n→ok1 L H h
instance (L H:List Int) (n:Nat):Decidable (okTo L H n):=by unfold okTo ok1;infer_instance
theorem okTo_zero (L H:List Int):okTo L H 0:=fun _ h=>by omega
theorem okTo_succ {L H:List Int} {n:Nat} (h:okTo L H n) (a:0≤L.getD n 0) (b:L.getD n 0≤H.getD n 0) (c:H.getD n 0≤600):okTo L H (n+1):=by
 intro i hi;by_cases e:i=n
 ·subst e;exact ⟨a,b,c⟩
 ·exact h i (by omega)
def Arc.right (a:Arc):Prop:=0≤a.f∧0≤a.t∧a.L.length=24∧a.H.length=24∧okTo a.L a.H 24
instance (a:Arc):Decidable a.right:=by unfold Arc.right;infer_instance
def Arc.rightB (a:Arc):Bool:=decide a.right
def hour (t:Int):Nat:=(t / 60 % 24).toNat
theorem hour_lt (t:Int):hour t<24:=by unfold hour;omega
def Arc.row (a:Arc) (hi:Bool):List Int:=if hi then a.H else a.L
def Arc.tk (a:Arc) (hi:Bool) (t:Int):Int:=(a.row hi).getD (hour t) 0
theorem Arc.tk_bd {a:Arc} (h:a.right) (hi:Bool) (t:Int):0≤a.tk hi t∧a.tk hi t≤600:=by
 obtain ⟨_,_,_,_,ho⟩:=h;obtain ⟨x,y,z⟩:=ho (hour t) (hour_lt t);unfold Arc.tk Arc.row;cases hi
 ·exact ⟨x,Int.le_trans y z⟩
 ·exact ⟨Int.le_trans x y,z⟩
theorem Arc.tk_same (a:Arc) (hi:Bool) {t u:Int} (h:t / 60=u / 60):a.tk hi t=a.tk hi u:=by
 unfold Arc.tk hour;rw[h]
def IsPass (a:Arc) (hi:Bool) (t p:Int):Prop:=
 (∃u,t≤u∧u≤1048576∧p=u+a.tk hi u)∧∀u,t≤u→u≤1048576→p≤u+a.tk hi u
theorem IsPass.unique {a:Arc} {hi:Bool} {t p q:Int} (h:IsPass a hi t p) (k:IsPass a hi t q):p=q:=by
 obtain ⟨⟨u,u1,u2,u3⟩,h2⟩:=h;obtain ⟨⟨v,v1,v2,v3⟩,k2⟩:=k;have:=h2 v v1 v2;have:=k2 u u1 u2;omega
theorem minIf (a b:Int):min a b=if b<a then b else a:=by split<;>omega
def least (f:Int→Int) (t:Int):Nat→Int
 |0=>f t
 |n+1=>min (least f t n) (f (t+n+1))
theorem least_spec (f:Int→Int) (t:Int):∀n:Nat,(∃u,t≤u∧u≤t+n∧least f t n=f u)∧∀u,t≤u→u≤t+n→least f t n≤f u
 |0=>by
  refine ⟨⟨t,by omega,by omega,rfl⟩,fun u h1 h2=>?_⟩;obtain rfl:u=t:=by omega
  exact Int.le_refl _
 |n+1=>by
  obtain ⟨⟨u,u1,u2,u3⟩,h⟩:=least_spec f t n;have hl:least f t (n+1)=min (least f t n) (f (t+n+1)):=rfl;refine ⟨?_,fun v v1 v2=>?_⟩
  ·by_cases c:least f t n≤f (t+n+1)
   ·exact ⟨u,u1,by omega,by rw[hl,Int.min_eq_left c];exact u3⟩
   ·exact ⟨t+n+1,by omega,by omega,by rw[hl];exact Int.min_eq_right (by omega)⟩
  ·rw[hl];by_cases c:v=t+n+1
   ·subst c;exact Int.min_le_right _ _
   ·exact Int.le_trans (Int.min_le_left _ _) (h v v1 (by omega))
def Arc.pass (a:Arc) (hi:Bool) (t:Int):Int:=least (fun u=>u+a.tk hi u) t (1048576-t).toNat
theorem Arc.pass_is (a:Arc) (hi:Bool) {t:Int} (ht:t≤1048576):IsPass a hi t (a.pass hi t):=by
 obtain ⟨⟨u,u1,u2,u3⟩,h⟩:=least_spec (fun u=>u+a.tk hi u) t (1048576-t).toNat;exact ⟨⟨u,u1,by omega,u3⟩,fun v v1 v2=>h v v1 (by omega)⟩
theorem Arc.pass_eq {a:Arc} {hi:Bool} {t p:Int} (ht:t≤1048576) (h:IsPass a hi t p):a.pass hi t=p:=(a.pass_is hi ht).unique h
theorem Arc.pass_bd {a:Arc} (h:a.right) (hi:Bool) {t:Int} (ht:t≤1048576):t≤a.pass hi t∧a.pass hi t≤t+a.tk hi t:=by
 obtain ⟨⟨u,u1,u2,u3⟩,k⟩:=a.pass_is hi ht;have:=(a.tk_bd h hi u).1;exact ⟨by omega,k t (by omega) ht⟩
theorem pass_step {a:Arc} {hi:Bool} {t u best:Int} (h60:u % 60=0) (htu:t<u)
  (h1:∃v,t≤v∧v≤1048576∧best=v+a.tk hi v) (h2:∀v,t≤v→v<u→v≤1048576→best≤v+a.tk hi v) (hu':u≤1048576):
  (∃v,t≤v∧v≤1048576∧min best (u+a.tk hi u)=v+a.tk hi v)∧∀v,t≤v→v<u+60→v≤1048576→min best (u+a.tk hi u)≤v+a.tk hi v:=by
 refine ⟨?_,fun v v1 v2 v3=>?_⟩
 ·by_cases c:best≤u+a.tk hi u
  ·rw[Int.min_eq_left c];exact h1
  ·rw[Int.min_eq_right (by omega)];exact ⟨u,by omega,hu',rfl⟩
 ·by_cases c:v<u
  ·exact Int.le_trans (Int.min_le_left _ _) (h2 v v1 c v3)
  ·have:a.tk hi v=a.tk hi u:=a.tk_same hi (by omega)
   exact Int.le_trans (Int.min_le_right _ _) (by omega)
theorem pass_first {a:Arc} {hi:Bool} {t:Int} (ht':t≤1048576):
  (∃v,t≤v∧v≤1048576∧t+a.tk hi t=v+a.tk hi v)∧∀v,t≤v→v<(t / 60+1)*60→v≤1048576→t+a.tk hi t≤v+a.tk hi v:=by
 refine ⟨⟨t,by omega,ht',rfl⟩,fun v v1 v2 _=>?_⟩
 have:a.tk hi v=a.tk hi t:=a.tk_same hi (by omega)
 omega
theorem pass_done {a:Arc} (hr:a.right) {hi:Bool} {t u best:Int} (ht:t≤1048576)
  (h1:∃v,t≤v∧v≤1048576∧best=v+a.tk hi v) (h2:∀v,t≤v→v<u→v≤1048576→best≤v+a.tk hi v) (h:best≤u∨1048576<u):
  a.pass hi t=best:=by
 refine Arc.pass_eq ht ⟨h1,fun v v1 v2=>?_⟩
 by_cases c:v<u
 ·exact h2 v v1 c v2
 ·have:=(a.tk_bd hr hi v).1
  omega
def IsLast (a:Arc) (hi:Bool) (b l:Int):Prop:=
 -1≤l∧l≤1048576∧(0≤l→a.pass hi l≤b)∧∀t,l<t→t≤1048576→b<a.pass hi t
theorem IsLast.unique {a:Arc} {hi:Bool} {b l m:Int} (h:IsLast a hi b l) (k:IsLast a hi b m):l=m:=by
 obtain ⟨a1,a2,a3,a4⟩:=h;obtain ⟨b1,b2,b3,b4⟩:=k;by_cases c:l<m
 ·have:=a4 m c b2;have:=b3 (by omega);omega
 ·by_cases d:m<l
  ·have:=b4 l d a2;have:=a3 (by omega);omega
  ·omega
def lastTo (p:Nat→Bool):Nat→Int
 |0=>-1
 |n+1=>if p n then n else lastTo p n
def Arc.last (a:Arc) (hi:Bool) (b:Int):Int:=lastTo (fun n=>decide (a.pass hi n≤b)) 1048577
def isTime (t:Int):Prop:=0≤t∧t≤1048576
instance (t:Int):Decidable (isTime t):=by unfold isTime;infer_instance
def timeB (t:Int):Bool:=decide (isTime t)
def Arc.validB (a:Arc) (t:Int):Bool:=decide (isTime t∧a.right)
theorem Arc.validB_true {a:Arc} {t:Int} (h:a.validB t=true):isTime t∧a.right:=of_decide_eq_true h
theorem Arc.validB_yes {a:Arc} {t:Int} (h:isTime t):a.validB t=a.rightB:=by unfold Arc.validB Arc.rightB;simp[h]
theorem Arc.validB_no {a:Arc} {t:Int} (h:¬isTime t):a.validB t=false:=decide_eq_false fun g=>h g.1
def Arc.tookF (a:Arc) (hi:Bool) (t:Int):Int:=if a.validB t then a.tk hi t else-1
def Arc.passF (a:Arc) (hi:Bool) (t:Int):Int:=if a.validB t then a.pass hi t else-1
theorem Arc.tookF_yes {a:Arc} (hi:Bool) {t:Int} (h:a.right) (ht:isTime t):a.tookF hi t=a.tk hi t:=if_pos (decide_eq_true ⟨ht,h⟩)
theorem Arc.passF_yes {a:Arc} (hi:Bool) {t:Int} (h:a.right) (ht:isTime t):a.passF hi t=a.pass hi t:=if_pos (decide_eq_true ⟨ht,h⟩)
def Arc.few (a:Arc):Bool:=decide (a.L.length≤40)&&decide (a.H.length≤40)
def Arc.less (a:Arc) (k:Nat):Arc:=⟨a.f,a.t,a.L,a.H.set k (a.L.getD k 0)⟩
end Go.Proofs.YtpocfbfmjippnaaGreat
end
section
namespace Go.Proofs.YtpocfbfmjippnaaGreat
open Go.RowKit
def IsInts (w:World) (A:Option Addr) (n:Nat) (xs:List Int):Prop:=
 xs.length=n∧n≤9223372036854775807∧(n=0∨∃b off,A=some ⟨b,off,none⟩∧b<w.heap.size∧∀i,i<n→w.cell? ⟨b,off+i,none⟩=some (.int .i64 (xs.getD i 0)))
theorem IsInts.below {w w':World} {A:Option Addr} {n:Nat} {xs:List Int} (h:IsInts w A n xs) {B:Nat} (hb:Below B w w') (hB:w.heap.size≤B):IsInts w' A n xs:=by
 obtain ⟨h1,h2,h3⟩:=h;refine ⟨h1,h2,?_⟩;rcases h3 with h3|⟨b,off,e,hlt,hc⟩
 ·exact .inl h3
 ·refine .inr ⟨b,off,e,by have:=hb.size;omega,fun i hi=>?_⟩;rw[hb.cell (p:=⟨b,off+i,none⟩) (by show b<B;omega)];exact hc i hi
def IsArc (w:World) (v:Value) (a:Arc):Prop:=
 ∃A n c A' n' c',v= .agg #[.int .i64 a.f,.int .i64 a.t,.slice A n c,.slice A' n' c']∧IsInts w A n a.L∧IsInts w A' n' a.H
theorem IsArc.below {w w':World} {v:Value} {a:Arc} (h:IsArc w v a) {B:Nat} (hb:Below B w w') (hB:w.heap.size≤B):IsArc w' v a:=by
 obtain ⟨A,n,c,A',n',c',e,h1,h2⟩:=h;exact ⟨A,n,c,A',n',c',e,h1.below hb hB,h2.below hb hB⟩
theorem IsArc.alloc {w:World} {v:Value} {a:Arc} (h:IsArc w v a) (o:Obj):IsArc (w.alloc o) v a:=
 h.below ((Below.refl w.heap.size w).alloc (Nat.le_refl _) o) (Nat.le_refl _)
theorem below1 (w:World) (o:Obj):Below w.heap.size w (w.alloc o):=(Below.refl _ _).alloc (Nat.le_refl _) o
theorem behind {w w':World} {o:Obj} (h:Below (w.alloc o).heap.size (w.alloc o) w'):Below w.heap.size w w':=
 (below1 w o).trans (h.mono (by simp))
theorem bcell {W w1:World} (hb:Below W.heap.size W w1):(∀b o,b<W.heap.size→w1.cell? ⟨b,o,none⟩=W.cell? ⟨b,o,none⟩)∧(∀b o,b<W.heap.size→w1.frozen? ⟨b,o,none⟩=W.frozen? ⟨b,o,none⟩)∧W.heap.size≤w1.heap.size:=
 ⟨fun b o h=>hb.cell (p:=⟨b,o,none⟩) h,fun b o h=>hb.frozen (p:=⟨b,o,none⟩) h,hb.size⟩
theorem ret_bool {a b:Bool} (h:a=b):Ending.returned (.bool a)= .returned (.bool b):=by rw[h]
theorem ret_int {k:IntKind} {a b:Int} (h:a=b):Ending.returned (.int k a)= .returned (.int k b):=by rw[h]
end Go.Proofs.YtpocfbfmjippnaaGreat
end
section
namespace Go.Proofs.YtpocfbfmjippnaaGreat
open Go.RowKit
namespace Clock
set_option maxHeartbeats 400000 in
theorem right_walk (f t:Int) (b off c b' off' c':Nat) (L H:List Int) (w:World) (hf:0≤f) (ht:0≤t)
  (hb:b<w.heap.size) (hc:∀i,i<24→w.cell? ⟨b,off+i,none⟩=some (.int .i64 (L.getD i 0)))
  (hb':b'<w.heap.size) (hc':∀i,i<24→w.cell? ⟨b',off'+i,none⟩=some (.int .i64 (H.getD i 0))):
  Calls Tryz.prog 154 #[.agg #[.int .i64 f,.int .i64 t,.slice (some ⟨b,off,none⟩) 24 c,.slice (some ⟨b',off',none⟩) 24 c']] w fun e w'=>
   e= .returned (.bool (decide (okTo L H 24)))∧Below w.heap.size w w':=by
 go_enter Tryz.func154,Tryz.ntmps154
 go_wp2
 go_loop [28] (fun i=>∃k:Nat,k≤24∧okTo L H k∧i= .int .i64 k) (fun i=>24-(intOf i).toNat)
 case atStart=>exact ⟨0,by omega,okTo_zero _ _,rfl⟩
 case round=>
  obtain ⟨k,hk,hok,rfl⟩:=hrel
  have Hok:=Lib.hid hok;clear hok
  by_cases hlt:k<24
  ·have h1:=hc k hlt
   have h2:=hc' k hlt
   have Hs:=Lib.hid (fun a b c=>okTo_succ Hok.out (n:=k) a b c)
   have Hn:Hid (¬(0≤L.getD k 0∧L.getD k 0≤H.getD k 0∧H.getD k 0≤600)→decide (okTo L H 24)=false):=Lib.hid fun h=>decide_eq_false fun g=>h (g k hlt)
   generalize L.getD k 0=l at*
   generalize H.getD k 0=h at*
   clear hc hc'
   go_wp2
   case roundEnd=>
    refine ⟨⟨k+1,by omega,Hs.out (by omega) (by omega) (by omega),by go_num⟩,by simp[intOf];omega⟩
   all_goals
    go_ret
    refine ⟨ret_bool ?_,below1 _ _⟩
    exact (Hn.out (by omega)).symm
  ·obtain rfl:k=24:=by omega
   clear hc hc'
   go_wp2
   go_ret
   exact ⟨ret_bool (by simp[Hok.out]),below1 _ _⟩
set_option maxHeartbeats 800000 in
theorem right_any {w:World} {v:Value} {a:Arc} (ha:IsArc w v a):
  Calls Tryz.prog 154 #[v] w fun e w'=>e= .returned (.bool a.rightB)∧Below w.heap.size w w':=by
 obtain ⟨A,n,c,A',n',c',rfl,⟨hl,hm,h1⟩,⟨hl',hm',h1'⟩⟩:=ha
 obtain ⟨f,t,L,H⟩:=a
 simp only at hl hl' h1 h1'⊢
 have Hr:=Lib.hid (show (⟨f,t,L,H⟩:Arc).rightB=decide (0≤f∧0≤t∧n=24∧n'=24∧okTo L H 24) by unfold Arc.rightB Arc.right;simp only[hl,hl'])
 by_cases h:0≤f∧0≤t∧n=24∧n'=24
 ·obtain ⟨hf,ht,rfl,rfl⟩:=h
  obtain ⟨b,off,rfl,hb,hc⟩:=h1.resolve_left (by omega)
  obtain ⟨b',off',rfl,hb',hc'⟩:=h1'.resolve_left (by omega)
  refine (right_walk f t b off c b' off' c' L H w hf ht hb hc hb' hc').mono fun e w' ⟨he,hw⟩=>⟨?_,hw⟩
  rw[he,Hr.out]
  exact ret_bool (by simp[hf,ht])
 ·have Hf:=Lib.hid (show (⟨f,t,L,H⟩:Arc).rightB=false by rw[Hr.out];exact decide_eq_false fun g=>h ⟨g.1,g.2.1,g.2.2.1,g.2.2.2.1⟩)
  clear Hr h1 h1' hl hl'
  have G:∀w',(Below w.heap.size w w')→Ending.returned (.bool false)= .returned (.bool (⟨f,t,L,H⟩:Arc).rightB)∧Below w.heap.size w w':=fun w' hw=>⟨ret_bool Hf.out.symm,hw⟩
  have G:=Lib.hid G
  clear Hf
  by_cases hf:f<0
  ·clear h
   go_enter Tryz.func154,Tryz.ntmps154
   go_wp2
   go_ret
   exact G.out _ (below1 _ _)
  by_cases ht:t<0
  ·clear h
   go_enter Tryz.func154,Tryz.ntmps154
   go_wp2
   go_ret
   exact G.out _ (below1 _ _)
  by_cases hn:n=24
  ·have hn':((n':Int) !=24)=true:=by rw[bne_iff_ne];omega
   subst hn
   clear h
   go_enter Tryz.func154,Tryz.ntmps154
   go_wp2
   go_ret
   exact G.out _ (below1 _ _)
  ·have hn':((n:Int) !=24)=true:=by rw[bne_iff_ne];omega
   clear h hn
   go_enter Tryz.func154,Tryz.ntmps154
   go_wp2
   go_ret
   exact G.out _ (below1 _ _)
set_option maxHeartbeats 400000 in
theorem took_low {w:World} {v:Value} {a:Arc} (ha:IsArc w v a) (hr:a.right) (hi:Bool) (x:Int) (hx0:0≤x) (hx1:x≤1048576):
  Calls Tryz.prog 241 #[v,.int .i64 x,.bool hi] w fun e w'=>e= .returned (.int .i64 (a.tk hi x))∧Below w.heap.size w w':=by
 obtain ⟨A,n,c,A',n',c',rfl,⟨hl,hm,h1⟩,⟨hl',hm',h1'⟩⟩:=ha
 obtain ⟨f,t,L,H⟩:=a
 obtain ⟨_,_,l1,l2,_⟩:=hr
 simp only at hl hl' h1 h1' l1 l2⊢
 obtain rfl:n=24:=by omega
 obtain rfl:n'=24:=by omega
 obtain ⟨b,off,rfl,hb,hc⟩:=h1.resolve_left (by omega)
 obtain ⟨b',off',rfl,hb',hc'⟩:=h1'.resolve_left (by omega)
 have g1:=hc ((x / 60 % 24).toNat) (by omega)
 have g2:=hc' ((x / 60 % 24).toNat) (by omega)
 clear hc hc' hl hl' l1 l2 h1 h1'
 have h2:0≤x / 60 % 24:=by omega
 have h3:x / 60 % 24<24:=by omega
 cases hi
 all_goals
  go_enter Tryz.func241,Tryz.ntmps241
  go_wp2
  go_ret
  exact ⟨rfl,below1 _ _⟩
set_option maxHeartbeats 400000 in
theorem valid_any {w:World} {v:Value} {a:Arc} (ha:IsArc w v a) (x:Int):
  Calls Tryz.prog 235 #[v,.int .i64 x] w fun e w'=>e= .returned (.bool (a.validB x))∧Below w.heap.size w w':=by
 obtain ⟨A,n,c,A',n',c',rfl,k⟩:=id ha
 clear k
 by_cases h0:0≤x
 ·by_cases h1:x≤1048576
  ·have Hd:=Lib.hid (Arc.validB_yes (a:=a) ⟨h0,h1⟩)
   go_enter Tryz.func235,Tryz.ntmps235
   go_wp2_with (go_at_call 154;refine (right_any (ha.alloc _)).mono ?_;rintro e w' ⟨rfl,hw⟩)
   go_ret
   exact ⟨ret_bool Hd.out.symm,behind hw⟩
  ·have Hd:=Lib.hid (Arc.validB_no (a:=a) (t:=x) fun g=>h1 g.2)
   go_enter Tryz.func235,Tryz.ntmps235
   go_wp2_with fail
   go_ret
   exact ⟨ret_bool Hd.out.symm,below1 _ _⟩
 ·have Hd:=Lib.hid (Arc.validB_no (a:=a) (t:=x) fun g=>h0 g.1)
  go_enter Tryz.func235,Tryz.ntmps235
  go_wp2_with fail
  go_ret
  exact ⟨ret_bool Hd.out.symm,below1 _ _⟩
end Clock
end Go.Proofs.YtpocfbfmjippnaaGreat
end
section
namespace Go.Proofs.YtpocfbfmjippnaaGreat
open Go.RowKit
namespace Clock
set_option maxHeartbeats 800000 in
theorem arrival_any {w:World} {v:Value} {a:Arc} (ha:IsArc w v a) (hr:a.right) (hi:Bool) (x:Int) (hx0:0≤x) (hx1:x≤1048576):
  Calls Tryz.prog 236 #[v,.int .i64 x,.bool hi] w fun e w'=>e= .returned (.int .i64 (a.pass hi x))∧Below w.heap.size w w':=by
 obtain ⟨A,n,c,A',n',c',rfl,k⟩:=id ha
 clear k
 have Hr:=Lib.hid hr;clear hr
 obtain ⟨t0,t1⟩:=Arc.tk_bd Hr.out hi x
 have P0:=Lib.hid (pass_first (a:=a) (hi:=hi) hx1)
 go_enter Tryz.func236,Tryz.ntmps236
 go_wp2_with (go_at_call 241;refine (took_low (ha.alloc _) Hr.out hi x hx0 hx1).mono ?_;rintro e w1 ⟨rfl,hw⟩;obtain ⟨k1,k2,k3⟩:=bcell hw)
 go_loopw [7,8] (fun best u wr=>∃B U:Int,best= .int .i64 B∧u= .int .i64 U∧x≤B∧B≤1049176∧U % 60=0∧x<U∧U≤1048636∧
   Hid (∃v,x≤v∧v≤1048576∧B=v+a.tk hi v)∧Hid (∀v,x≤v→v<U→v≤1048576→B≤v+a.tk hi v)∧
   Below (w.heap.size+1) (w.alloc (.cells #[.int .i64 a.f,.int .i64 a.t,.slice A n c,.slice A' n' c'] 113)) wr)
  (fun _ u _=>2000000-(intOf u).toNat)
 case atStart=>exact ⟨x+a.tk hi x,(x / 60+1)*60,rfl,rfl,by omega,by omega,by omega,by omega,by omega,P0.out.1,P0.out.2,by simpa using hw⟩
 case round=>
  clear k1 k2 k3 hw
  obtain ⟨B,U,rfl,rfl,b1,b2,u0,u1,u2,h1,h2,hw⟩:=hrel
  have k:=bcell (W:=w.alloc (.cells #[.int .i64 a.f,.int .i64 a.t,.slice A n c,.slice A' n' c'] 113)) (w1:=wr) (by simpa using hw)
  obtain ⟨k1,k2,k3⟩:=k
  have H0:=Lib.hid u0;clear u0
  by_cases hc:U<B∧U≤1048576
  ·obtain ⟨c1,c2⟩:=hc
   obtain ⟨t2,t3⟩:=Arc.tk_bd Hr.out hi U
   go_wp2_with (go_at_call 241;refine (took_low ((ha.alloc _).below hw (by simp)) Hr.out hi U (by omega) (by omega)).mono ?_;rintro e w2 ⟨rfl,hw2⟩)
   have Ps:=pass_step (a:=a) (hi:=hi) H0.out u1 h1.out h2.out c2
   rw[minIf] at Ps
   refine ⟨⟨_,_,rfl,rfl,by split<;>omega,by split<;>omega,by have:=H0.out;omega,by omega,by omega,Ps.1,Ps.2,hw.trans (hw2.mono (by have:=hw.size;simpa using this))⟩,by simp[intOf];omega⟩
  ·have P1:=Lib.hid (pass_done (a:=a) Hr.out hx1 h1.out h2.out (by omega))
   by_cases c1:U<B
   ·have c2:¬U≤1048576:=fun g=>hc ⟨c1,g⟩
    clear hc
    go_wp2_with fail
    go_ret
    exact ⟨ret_int P1.out.symm,(below1 _ _).trans (hw.mono (by simp))⟩
   ·clear hc
    go_wp2_with fail
    go_ret
    exact ⟨ret_int P1.out.symm,(below1 _ _).trans (hw.mono (by simp))⟩
set_option maxHeartbeats 400000 in
theorem pass_any {w:World} {v:Value} {a:Arc} (ha:IsArc w v a) (x:Int) (hi:Bool):
  Calls Tryz.prog 221 #[v,.int .i64 x,.bool hi] w fun e w'=>e= .returned (.int .i64 (a.passF hi x))∧Below w.heap.size w w':=by
 obtain ⟨A,n,c,A',n',c',rfl,k⟩:=id ha
 clear k
 cases h:a.validB x
 ·have He:=Lib.hid (show a.passF hi x= -1 by unfold Arc.passF;simp[h])
  go_enter Tryz.func221,Tryz.ntmps221
  go_wp2_with (go_at_call 235;refine (valid_any (ha.alloc _) x).mono ?_;rintro e w' ⟨rfl,hw⟩)
  go_ret
  exact ⟨ret_int He.out.symm,behind hw⟩
 ·obtain ⟨ht,hr⟩:=a.validB_true h
  have He:=Lib.hid (Arc.passF_yes hi hr ht)
  obtain ⟨h0,h1⟩:=ht
  have Hr:=Lib.hid hr;clear hr
  go_enter Tryz.func221,Tryz.ntmps221
  go_wp2_with (first
   |(go_at_call 235;refine (valid_any (ha.alloc _) x).mono ?_;rintro e w1 ⟨rfl,hw⟩;obtain ⟨k1,k2,k3⟩:=bcell hw)
   |(go_at_call 236;refine (arrival_any ((ha.alloc _).below hw (Nat.le_refl _)) Hr.out hi x h0 h1).mono ?_;rintro e w2 ⟨rfl,hw2⟩))
  go_ret
  exact ⟨ret_int He.out.symm,behind (hw.trans (hw2.mono hw.size))⟩
end Clock
end Go.Proofs.YtpocfbfmjippnaaGreat
end
section
namespace Go.Proofs.YtpocfbfmjippnaaGreat
open Go.RowKit
structure Box (w0 w:World) (B:Nat) (cs:Array Value) (a:Arc):Prop where
 base:IsArc w0 (.agg cs) a
 below:Below w0.heap.size w0 w
 held:w.heap[B]?=some (.cells cs 113 (0,0))
theorem Box.arc {w0 w:World} {B:Nat} {cs:Array Value} {a:Arc} (h:Box w0 w B cs a):IsArc w (.agg cs) a:=h.base.below h.below (Nat.le_refl _)
theorem Box.next {w0 w w':World} {B:Nat} {cs:Array Value} {a:Arc} (h:Box w0 w B cs a) (hb:Below w.heap.size w w'):Box w0 w' B cs a:=
 ⟨h.base,h.below.trans (hb.mono h.below.size),by rw[hb.block B (lt_of_block h.held)];exact h.held⟩
theorem Box.store {w0 w:World} {B:Nat} {cs:Array Value} {a:Arc} (h:Box w0 w B cs a) {b j:Nat} (hb:w0.heap.size≤b) (hne:B≠b) (v:Value):Box w0 (w.setCell ⟨b,j,none⟩ v) B cs a:=
 ⟨h.base,h.below.setCell hb v,by rw[Below.heap_setCell w ⟨b,j,none⟩ v B hne];exact h.held⟩
theorem Box.cells {w0 w:World} {B:Nat} {cs:Array Value} {a:Arc} (h:Box w0 w B cs a) (j:Nat):w.cell? ⟨B,j,none⟩=cs[j]?:=cell_of_row _ _ j _ _ _ h.held
theorem Box.first {w:World} {cs:Array Value} {a:Arc} (h:IsArc w (.agg cs) a):Box w (w.alloc (.cells cs 113)) w.heap.size cs a:=
 ⟨h,below1 _ _,heap_alloc_new w _⟩
theorem Box.drew {w0 w:World} {B:Nat} {cs:Array Value} {a:Arc} (h:Box w0 w B cs a):Box w0 { w with drawn:=w.drawn+1 } B cs a:=
 ⟨h.base,h.below.drew,h.held⟩
def InTwo (w0:World) (B:Nat) (cs:Array Value) (a:Arc) (w1:World) (B':Nat) (cs':Array Value) (a':Arc) (w:World):Prop:=Box w0 w B cs a∧Box w1 w B' cs' a'
section
variable {w0 w1 w w':World} {B B':Nat} {cs cs':Array Value} {a a':Arc}
theorem InTwo.l (h:InTwo w0 B cs a w1 B' cs' a' w):Box w0 w B cs a:=h.1
theorem InTwo.r (h:InTwo w0 B cs a w1 B' cs' a' w):Box w1 w B' cs' a':=h.2
theorem InTwo.next (h:InTwo w0 B cs a w1 B' cs' a' w) (hb:Below w.heap.size w w'):InTwo w0 B cs a w1 B' cs' a' w':=⟨h.1.next hb,h.2.next hb⟩
theorem InTwo.drew (h:InTwo w0 B cs a w1 B' cs' a' w):InTwo w0 B cs a w1 B' cs' a' { w with drawn:=w.drawn+1 }:=⟨h.1.drew,h.2.drew⟩
end
end Go.Proofs.YtpocfbfmjippnaaGreat
end
section
namespace Go.Proofs.YtpocfbfmjippnaaGreat
open Go.RowKit Go.BigFrame
namespace Ref10
theorem time_any (t:Int) (w:World):Calls Tryz.prog 225 #[.int .i64 t] w fun e w'=>e= .returned (.bool (timeB t))∧w=w':=by
 by_cases h0:0≤t
 ·by_cases h1:t≤1048576
  ·have e:=Lib.hid (show timeB t=true from decide_eq_true ⟨h0,h1⟩);go_enter Tryz.func225,Tryz.ntmps225;go_wp2;go_ret;exact ⟨ret_bool e.out.symm,rfl⟩
  ·have e:=Lib.hid (show timeB t=false from decide_eq_false fun g=>h1 g.2);go_enter Tryz.func225,Tryz.ntmps225;go_wp2;go_ret;exact ⟨ret_bool e.out.symm,rfl⟩
 ·have e:=Lib.hid (show timeB t=false from decide_eq_false fun g=>h0 g.1);go_enter Tryz.func225,Tryz.ntmps225;go_wp2;go_ret;exact ⟨ret_bool e.out.symm,rfl⟩
theorem hour_any (t:Int) (h0:0≤t) (h1:t≤1048576) (w:World):Calls Tryz.prog 242 #[.int .i64 t] w fun e w'=>e= .returned (.int .i64 (hour t))∧w=w':=by
 have e:=Lib.hid (show ((hour t:Nat):Int)=t / 60 % 24 by unfold hour;omega);go_enter Tryz.func242,Tryz.ntmps242;go_wp2;go_ret;exact ⟨ret_int e.out.symm,rfl⟩
set_option maxRecDepth 100000 in
set_option maxHeartbeats 1600000 in
theorem right_walk (f t:Int) (b off c b' off' c':Nat) (L H:List Int) (w:World) (hf:0≤f) (ht:0≤t)
  (hb:b<w.heap.size) (hc:∀i,i<24→w.cell? ⟨b,off+i,none⟩=some (.int .i64 (L.getD i 0)))
  (hb':b'<w.heap.size) (hc':∀i,i<24→w.cell? ⟨b',off'+i,none⟩=some (.int .i64 (H.getD i 0))):
  Calls Tryz.prog 161 #[.agg #[.int .i64 f,.int .i64 t,.slice (some ⟨b,off,none⟩) 24 c,.slice (some ⟨b',off',none⟩) 24 c']] w fun e w'=>
   e= .returned (.bool (decide (okTo L H 24)))∧Below w.heap.size w w':=by
 have S:=Lib.hid (below1 w (.cells #[.int .i64 f,.int .i64 t,.slice (some ⟨b,off,none⟩) 24 c,.slice (some ⟨b',off',none⟩) 24 c'] 113))
 go_enter Tryz.func161,Tryz.ntmps161
 go_wp2
 go_loopw [3] (fun i wr=>∃(k m:Nat),k≤24∧okTo L H k∧i= .int .i64 k∧wr=(w.alloc (.cells #[.int .i64 f,.int .i64 t,.slice (some ⟨b,off,none⟩) 24 c,.slice (some ⟨b',off',none⟩) 24 c'] 113)).drewN m) (fun i _=>24-(intOf i).toNat)
 case atStart=>exact ⟨0,0,by omega,okTo_zero _ _,rfl,by rfl⟩
 case round=>
  obtain ⟨k,m,hk,hok,rfl,rfl⟩:=hrel
  have Hok:=Lib.hid hok;clear hok
  by_cases hlt:k<24
  ·have h1:=hc k hlt
   have h2:=hc' k hlt
   have i0:(0:Int)≤k:=by omega
   have i1:(k:Int)<24:=by omega
   have Hs:=Lib.hid (fun a b c=>okTo_succ Hok.out (n:=k) a b c)
   have Hn:Hid (¬(0≤L.getD k 0∧L.getD k 0≤H.getD k 0∧H.getD k 0≤600)→decide (okTo L H 24)=false):=Lib.hid fun h=>decide_eq_false fun g=>h (g k hlt)
   generalize L.getD k 0=l at*
   generalize H.getD k 0=h at*
   clear hc hc'
   have B:=S.out
   by_cases c1:l<0
   ·have d1:decide (l<0)=true:=by simpa using c1
    go_wp2
    go_quiet (fail)
    go_wp2
    go_ret
    exact ⟨ret_bool (Hn.out (by omega)).symm,below_drewN (below_drewN B _) _⟩
   ·have d1:decide (l<0)=false:=by simpa using c1
    by_cases c2:h<l
    ·have d2:decide (h<l)=true:=by simpa using c2
     go_wp2
     go_quiet (fail)
     go_wp2
     go_ret
     exact ⟨ret_bool (Hn.out (by omega)).symm,below_drewN (below_drewN B _) _⟩
    ·have d2:decide (h<l)=false:=by simpa using c2
     by_cases c3:600<h
     ·have d3:decide (600<h)=true:=by simpa using c3
      go_wp2
      go_quiet (fail)
      go_wp2
      go_ret
      exact ⟨ret_bool (Hn.out (by omega)).symm,below_drewN (below_drewN B _) _⟩
     ·have d3:decide (600<h)=false:=by simpa using c3
      go_wp2
      go_quiet (fail)
      go_wp2
      go_roundw
      case rel=>exact ⟨k+1,_,by omega,Hs.out (by omega) (by omega) (by omega),by go_num,rfl⟩
      case measure=>simp[intOf];omega
  ·obtain rfl:k=24:=by omega
   have B:=S.out
   clear hc hc'
   go_wp2
   go_ret
   exact ⟨ret_bool (by simp[Hok.out]),below_drewN B _⟩
set_option maxHeartbeats 800000 in
theorem right_any {w:World} {v:Value} {a:Arc} (ha:IsArc w v a):
  Calls Tryz.prog 161 #[v] w fun e w'=>e= .returned (.bool a.rightB)∧Below w.heap.size w w':=by
 obtain ⟨A,n,c,A',n',c',rfl,⟨hl,hm,h1⟩,⟨hl',hm',h1'⟩⟩:=ha
 obtain ⟨f,t,L,H⟩:=a
 simp only at hl hl' h1 h1'⊢
 have Hr:=Lib.hid (show (⟨f,t,L,H⟩:Arc).rightB=decide (0≤f∧0≤t∧n=24∧n'=24∧okTo L H 24) by unfold Arc.rightB Arc.right;simp only[hl,hl'])
 by_cases h:0≤f∧0≤t∧n=24∧n'=24
 ·obtain ⟨hf,ht,rfl,rfl⟩:=h
  obtain ⟨b,off,rfl,hb,hc⟩:=h1.resolve_left (by omega)
  obtain ⟨b',off',rfl,hb',hc'⟩:=h1'.resolve_left (by omega)
  refine (right_walk f t b off c b' off' c' L H w hf ht hb hc hb' hc').mono fun e w' ⟨he,hw⟩=>⟨?_,hw⟩
  rw[he,Hr.out]
  exact ret_bool (by simp[hf,ht])
 ·have Hf:=Lib.hid (show (⟨f,t,L,H⟩:Arc).rightB=false by rw[Hr.out];exact decide_eq_false fun g=>h ⟨g.1,g.2.1,g.2.2.1,g.2.2.2.1⟩)
  clear Hr h1 h1' hl hl'
  have G:∀w',(Below w.heap.size w w')→Ending.returned (.bool false)= .returned (.bool (⟨f,t,L,H⟩:Arc).rightB)∧Below w.heap.size w w':=fun w' hw=>⟨ret_bool Hf.out.symm,hw⟩
  have G:=Lib.hid G
  clear Hf
  by_cases hf:f<0
  ·clear h
   go_enter Tryz.func161,Tryz.ntmps161
   go_wp2
   go_ret
   exact G.out _ (below1 _ _)
  by_cases ht:t<0
  ·clear h
   go_enter Tryz.func161,Tryz.ntmps161
   go_wp2
   go_ret
   exact G.out _ (below1 _ _)
  by_cases hn:n=24
  ·have hn':((n':Int) !=24)=true:=by rw[bne_iff_ne];omega
   subst hn
   clear h
   go_enter Tryz.func161,Tryz.ntmps161
   go_wp2
   go_ret
   exact G.out _ (below1 _ _)
  ·have hn':((n:Int) !=24)=true:=by rw[bne_iff_ne];omega
   clear h hn
   go_enter Tryz.func161,Tryz.ntmps161
   go_wp2
   go_ret
   exact G.out _ (below1 _ _)
end Ref10
end Go.Proofs.YtpocfbfmjippnaaGreat
end
section
namespace Go.Proofs.YtpocfbfmjippnaaGreat
open Go.RowKit Go.BigFrame
namespace Ref10
set_option maxHeartbeats 800000 in
theorem took_any {w:World} {v:Value} {a:Arc} (ha:IsArc w v a) (x:Int) (hi:Bool):
  Calls Tryz.prog 238 #[v,.int .i64 x,.bool hi] w fun e w'=>e= .returned (.int .i64 (a.tookF hi x))∧Below w.heap.size w w':=by
 obtain ⟨A,n,c,A',n',c',rfl,k⟩:=id ha
 have S:=Box.first ha
 have hc:=S.cells
 cases hr:a.rightB
 ·have He:=Lib.hid (show a.tookF hi x= -1 by unfold Arc.tookF Arc.validB;rw[if_neg];intro h;have h:=of_decide_eq_true h;rw[show a.rightB=true from decide_eq_true h.2] at hr;cases hr)
  clear k
  go_enter Tryz.func238,Tryz.ntmps238
  go_wp2_with (first|(go_at_call 161;refine (right_any S.arc).mono ?_;rintro e w' ⟨rfl,hw⟩;replace S:=S.next hw;replace hc:=S.cells;clear hw)|(go_at_call 225;refine (time_any _ _).mono ?_;rintro e w' ⟨rfl,rfl⟩))
  go_ret
  exact ⟨ret_int He.out.symm,S.below⟩
 cases ht:timeB x
 ·have He:=Lib.hid (show a.tookF hi x= -1 by unfold Arc.tookF Arc.validB;rw[if_neg];intro h;have h:=of_decide_eq_true h;rw[show timeB x=true from decide_eq_true h.1] at ht;cases ht)
  clear k
  go_enter Tryz.func238,Tryz.ntmps238
  go_wp2_with (first|(go_at_call 161;refine (right_any S.arc).mono ?_;rintro e w' ⟨rfl,hw⟩;replace S:=S.next hw;replace hc:=S.cells;clear hw)|(go_at_call 225;refine (time_any _ _).mono ?_;rintro e w' ⟨rfl,rfl⟩))
  go_ret
  exact ⟨ret_int He.out.symm,S.below⟩
 have R:a.right:=of_decide_eq_true hr
 have T:isTime x:=of_decide_eq_true ht
 have He:=Lib.hid (Arc.tookF_yes hi R T)
 obtain ⟨x0,x1⟩:=T
 obtain ⟨⟨hl,hm,g1⟩,⟨hl',hm',g1'⟩⟩:=k
 obtain ⟨_,_,r3,r4,_⟩:=R
 obtain ⟨f,t,L,H⟩:=a
 simp only at hl hl' g1 g1' r3 r4⊢
 obtain rfl:n=24:=by omega
 obtain rfl:n'=24:=by omega
 obtain ⟨b,off,rfl,hb,hcc⟩:=g1.resolve_left (by omega)
 obtain ⟨b',off',rfl,hb',hcc'⟩:=g1'.resolve_left (by omega)
 have l0:=hour_lt x
 have m1:=hcc (hour x) l0
 have m2:=hcc' (hour x) l0
 clear hcc hcc' g1 g1' hl hl' r3 r4
 have j0:(0:Int)≤hour x:=by omega
 have j1:((hour x:Nat):Int)<24:=by omega
 have hbs:b≠w.heap.size:=by omega
 have hbs':b'≠w.heap.size:=by omega
 cases hi
 all_goals
  go_enter Tryz.func238,Tryz.ntmps238
  go_wp2_with (first
   |(go_at_call 161;refine (right_any S.arc).mono ?_;rintro e w' ⟨rfl,hw⟩;replace S:=S.next hw;replace hc:=S.cells;have mm1:=(S.below.cell (p:=⟨b,off+hour x,none⟩) hb).trans m1;have mm2:=(S.below.cell (p:=⟨b',off'+hour x,none⟩) hb').trans m2;clear hw)
   |(go_at_call 225;refine (time_any _ _).mono ?_;rintro e w' ⟨rfl,rfl⟩)
   |(go_at_call 242;refine (hour_any x x0 x1 _).mono ?_;rintro e w' ⟨rfl,rfl⟩))
  go_quiet ((go_at_call 242;exact Calls.quiet_of_same ((hour_any x x0 x1 _).mono fun _ _ ⟨h,k⟩=>⟨h,k.symm⟩)))
  go_wp2
  go_ret
  exact ⟨ret_int He.out.symm,below_drewN S.below _⟩
theorem first1 (a:Arc) (hi:Bool) (x:Int):∀v,x≤v→v<x+1→x+a.tk hi x≤v+a.tk hi v:=by
 intro v v1 v2;obtain rfl:v=x:=by omega
 exact Int.le_refl _
theorem pass_step1 {a:Arc} {hi:Bool} {t u best:Int} (h1:∃v,t≤v∧v≤1048576∧best=v+a.tk hi v) (h2:∀v,t≤v→v<u→best≤v+a.tk hi v) (hu:t≤u) (hu':u≤1048576):
  (∃v,t≤v∧v≤1048576∧(if u+a.tk hi u<best then u+a.tk hi u else best)=v+a.tk hi v)∧∀v,t≤v→v<u+1→(if u+a.tk hi u<best then u+a.tk hi u else best)≤v+a.tk hi v:=by
 refine ⟨?_,fun v v1 v2=>?_⟩
 ·split
  ·exact ⟨u,hu,hu',rfl⟩
  ·exact h1
 ·by_cases c:v=u
  ·subst c;split<;>omega
  ·have:=h2 v v1 (by omega);split<;>omega
set_option maxHeartbeats 800000 in
theorem pass_any {w:World} {v:Value} {a:Arc} (ha:IsArc w v a) (x:Int) (hi:Bool):
  Calls Tryz.prog 227 #[v,.int .i64 x,.bool hi] w fun e w'=>e= .returned (.int .i64 (a.passF hi x))∧Below w.heap.size w w':=by
 obtain ⟨A,n,c,A',n',c',rfl,k⟩:=id ha
 clear k
 have S:=Box.first ha
 have hc:=S.cells
 cases h:a.validB x
 ·have He:=Lib.hid (show a.passF hi x= -1 by unfold Arc.passF;simp[h])
  have e1:a.tookF hi x= -1:=by unfold Arc.tookF;simp[h]
  clear h
  go_enter Tryz.func227,Tryz.ntmps227
  go_wp2_with (go_at_call 238;refine (took_any S.arc _ _).mono ?_;rintro e w' ⟨rfl,hw⟩;replace S:=S.next hw;replace hc:=S.cells;clear hw)
  go_ret
  exact ⟨ret_int He.out.symm,S.below⟩
 ·obtain ⟨ht,hr⟩:=a.validB_true h
  have He:=Lib.hid (Arc.passF_yes hi hr ht)
  have e1:=Arc.tookF_yes hi hr ht
  obtain ⟨h0,h1⟩:=ht
  obtain ⟨t0,t1⟩:=a.tk_bd hr hi x
  have Hr:=Lib.hid hr
  clear hr h
  go_enter Tryz.func227,Tryz.ntmps227
  go_wp2_with (go_at_call 238;refine (took_any S.arc _ _).mono ?_;rintro e w' ⟨rfl,hw⟩;replace S:=S.next hw;replace hc:=S.cells;clear hw)
  clear hc e1
  go_loopw [8,9] (fun best u wr=>∃B U:Int,best= .int .i64 B∧u= .int .i64 U∧x≤B∧B≤1049176∧x<U∧U≤1048577∧
    Hid (∃v,x≤v∧v≤1048576∧B=v+a.tk hi v)∧Hid (∀v,x≤v→v<U→B≤v+a.tk hi v)∧Box w wr w.heap.size #[.int .i64 a.f,.int .i64 a.t,.slice A n c,.slice A' n' c'] a)
   (fun _ u _=>2000000-(intOf u).toNat)
  case atStart=>exact ⟨_,_,rfl,rfl,by omega,by omega,by omega,by omega,⟨x,by omega,h1,rfl⟩,first1 a hi x,S⟩
  case round=>
   clear S
   obtain ⟨B,U,rfl,rfl,b1,b2,u1,u2,h3,h4,S⟩:=hrel
   have hc:=S.cells
   by_cases hk:U≤B∧U≤1048576
   ·obtain ⟨g1,g2⟩:=hk
    have e1:=Arc.tookF_yes hi Hr.out (t:=U) ⟨by omega,g2⟩
    obtain ⟨q0,q1⟩:=a.tk_bd Hr.out hi U
    go_wp2_with (go_at_call 238;refine (took_any S.arc _ _).mono ?_;rintro e w' ⟨rfl,hw⟩;replace S:=S.next hw;replace hc:=S.cells;clear hw)
    go_roundw
    case rel=>
     have P:=pass_step1 h3.out h4.out (by omega) g2
     exact ⟨_,_,rfl,rfl,by split<;>omega,by split<;>omega,by omega,by omega,P.1,P.2,S⟩
    case measure=>simp[intOf];omega
   ·have P:=Lib.hid (pass_done (a:=a) Hr.out h1 h3.out (fun v v1 v2 _=>h4.out v v1 v2) (by omega))
    by_cases g1:U≤B
    ·have g2:1048576<U:=by omega
     clear hk
     go_wp2_with fail
     go_ret
     exact ⟨ret_int (by rw[He.out,P.out]),S.below⟩
    ·clear hk
     go_wp2_with fail
     go_ret
     exact ⟨ret_int (by rw[He.out,P.out]),S.below⟩
end Ref10
end Go.Proofs.YtpocfbfmjippnaaGreat
end
