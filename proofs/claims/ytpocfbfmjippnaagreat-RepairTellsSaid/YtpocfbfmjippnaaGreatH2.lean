/- Parts of the proof of the law; no condition. -/
import Derived.Below
import Derived.ControlIn
import Derived.Deep.MidRow
import Derived.IntWalk
import Derived.Laws.AppendOwn
import Derived.Laws.CopyRow
import Derived.Laws.IdiomCopy
import Derived.Laws.IdiomRangeMap
import Derived.Laws.MakeOwn
import Derived.Laws.NewBlocks
import Derived.Laws.Slices
import Derived.Lib.AppendZerosOnto
import Derived.Lib.BitFns
import Derived.Lib.Hide
import Derived.Lib.JoinLaws
import Derived.Lib.Overlaps
import Derived.Lib.SliceRun
import Derived.Lib.Slices
import Derived.Lib.Small
import Derived.Lib.SmallJoins
import Derived.Lib.Strings
import Derived.Lib.Walk
import Derived.MapKept
import Derived.Maps.RangeRun
import Derived.OpenShut
import Derived.OrdersHeld
import Derived.OrdersIn
import Derived.OwnWalk
import Derived.ProofKit
import Derived.RangeFuncOwn
import Derived.RangeFuncRecord
import Derived.RegionTactic
import Derived.Shelf.RegionOpenPlain
import Derived.SizedLaws
import Derived.Sort.LoopGhostIn
import Derived.Test.YtpocfbfmjippnaaGreatChecked
import Derived.Test.YtpocfbfmjippnaaGreatRows
import Derived.WalkKit
import Derived.WideShapes
import Init
import Derived.Test.YtpocfbfmjippnaaGreatH1
set_option linter.all false
section
namespace Go.Proofs.YtpocfbfmjippnaaGreat
def idxF {α:Type} (p:α→Bool):List α→Int
 |[]=>-1
 |x::r=>if p x then 0 else if idxF p r<0 then-1 else idxF p r+1
theorem idxF_at {α:Type} {p:α→Bool} {d:α}:∀{l:List α} {k:Nat},k<l.length→(∀j,j<k→p (l.getD j d)=false)→p (l.getD k d)=true→idxF p l=k
 |[],k,h,_,_=>by simp at h
 |x::r,0,_,_,h=>by simp at h;simp[idxF,h]
 |x::r,k+1,h,hg,hb=>by
  have h0:=hg 0 (by omega);simp at h0;have h1:=idxF_at (p:=p) (d:=d) (l:=r) (k:=k) (by simpa using h) (fun j hj=>by simpa using hg (j+1) (by omega)) (by simpa using hb);simp[idxF,h0,h1];omega
theorem idxF_none {α:Type} {p:α→Bool} {d:α}:∀{l:List α},(∀j,j<l.length→p (l.getD j d)=false)→idxF p l= -1
 |[],_=>rfl
 |x::r,hg=>by
  have h0:=hg 0 (by simp);simp at h0;have h1:=idxF_none (p:=p) (d:=d) (l:=r) (fun j hj=>by simpa using hg (j+1) (by simpa using hj));simp[idxF,h0,h1]
theorem idxF_any {α:Type} (p:α→Bool):∀l:List α,0≤idxF p l↔l.any p=true
 |[]=>by simp[idxF]
 |x::r=>by
  have ih:=idxF_any p r;unfold idxF;rw[List.any_cons,Bool.or_eq_true,←ih];cases h:p x<;>simp;split<;>omega
def rng (a b:Int):List Int:=(List.range (b-a).toNat).map fun (k:Nat)=>a+(k:Int)
def Inc (n:Int):Int→List Int→Prop
 |_,[]=>True
 |f,x::r=>f≤x∧x<n∧Inc n (x+1) r
theorem Inc.len {n:Int}:∀{l:List Int} {f:Int},Inc n f l→l≠[]→f+l.length≤n
 |[],_,_,h=>absurd rfl h
 |[x],f,⟨h1,h2,_⟩,_=>by simp;omega
 |x::y::r,f,⟨h1,h2,h3⟩,_=>by
  have:=Inc.len h3 (by simp);simp only[List.length_cons] at this⊢;omega
theorem Inc.mono {n:Int}:∀{l:List Int} {f g:Int},Inc n f l→g≤f→Inc n g l
 |[],_,_,_,_=>trivial
 |x::r,f,g,⟨h1,h2,h3⟩,h=>⟨by omega,h2,h3⟩
end Go.Proofs.YtpocfbfmjippnaaGreat
end
section
namespace Go.Proofs.YtpocfbfmjippnaaGreat
def mk (l:List Int):Nat:=l.foldl (fun m i=>m|||2^i.toNat) 0
end Go.Proofs.YtpocfbfmjippnaaGreat
end
section
namespace Go.Proofs.YtpocfbfmjippnaaGreat
abbrev DStop:=Int×Bool
abbrev DReq:=Int×Int×Int×Int×Int×Int×Int×Int×Int×Int
abbrev DLoad:=Int×Int×Int
@[reducible] def dReq:DReq:=(0,0,0,0,0,0,0,0,0,0)
@[reducible] def dStop:DStop:=(0,false)
def reqLoad (r:DReq):DLoad:=(r.2.2.2.2.2.2.2.1,r.2.2.2.2.2.2.2.2.1,r.2.2.2.2.2.2.2.2.2)
def place1 (n:Int):Bool:=decide (0≤n∧n≤60)
def placesB (l:DLoad):Bool:=place1 l.1&&(place1 l.2.1&&place1 l.2.2)
theorem placesB_iff {l:DLoad}:placesB l=true↔(0≤l.1∧l.1≤60)∧(0≤l.2.1∧l.2.1≤60)∧0≤l.2.2∧l.2.2≤60:=by simp[placesB,place1]
def OkAt (ss:List DStop) (rs:List DReq) (i:Nat):Prop:=
 (0≤(ss.getD i dStop).1∧(ss.getD i dStop).1<rs.length)∧placesB (reqLoad (rs.getD (ss.getD i dStop).1.toNat dReq))=true∧ss.getD i dStop∉ss.take i∧((ss.getD i dStop).2=true→((ss.getD i dStop).1,false)∈ss.drop (i+1))
instance (ss:List DStop) (rs:List DReq) (i:Nat):Decidable (OkAt ss rs i):=by unfold OkAt;infer_instance
def RightS (ss:List DStop) (rs:List DReq):Prop:=(ss.length≤80∧rs.length≤30000)∧∀i,i<ss.length→OkAt ss rs i
instance (ss:List DStop) (rs:List DReq):Decidable (RightS ss rs):=by unfold RightS;infer_instance
def rightS (ss:List DStop) (rs:List DReq):Bool:=decide (RightS ss rs)
theorem getD_get {ss:List DStop} {i:Nat} (h:i<ss.length):ss.getD i dStop=ss[i]:=by simp[List.getD,h]
def atF (x:DStop):List DStop→Int
 |[]=>-1
 |s::r=>if s=x then 0 else if atF x r<0 then-1 else atF x r+1
theorem atF_spec (x:DStop):∀ss:List DStop,atF x ss= -1∧x∉ss∨∃i:Nat,i<ss.length∧atF x ss=i∧ss.getD i dStop=x∧x∉ss.take i
 |[]=>.inl ⟨rfl,by simp⟩
 |s::r=>by
  unfold atF;by_cases h:s=x
  ·rw[if_pos h];exact .inr ⟨0,by simp,rfl,by simpa using h,by simp⟩
  ·rw[if_neg h];rcases atF_spec x r with ⟨h1,h2⟩|⟨i,h1,h2,h3,h4⟩
   ·left;rw[if_pos (by omega)];exact ⟨rfl,by simp[h2,Ne.symm h]⟩
   ·right;rw[if_neg (by omega)];exact ⟨i+1,by simpa using h1,by omega,by simpa using h3,by simp[h4,Ne.symm h]⟩
theorem atF_none {x:DStop} {ss:List DStop} (h:x∉ss):atF x ss= -1:=by
 rcases atF_spec x ss with ⟨h1,_⟩|⟨i,h1,_,h3,_⟩
 ·exact h1
 ·exfalso;apply h;rw[←h3,getD_get h1];exact List.getElem_mem h1
theorem getD_memS {ss:List DStop} {i:Nat} (h:i<ss.length):ss.getD i dStop∈ss:=by rw[getD_get h];exact List.getElem_mem h
theorem mem_take_of {ss:List DStop} {i j:Nat} (h:i<ss.length) (hj:i<j):ss.getD i dStop∈ss.take j:=by
 rw[List.mem_take_iff_getElem];exact ⟨i,by omega,by rw[getD_get h]⟩
theorem atF_at {x:DStop} {ss:List DStop} {i:Nat} (hi:i<ss.length) (h:ss.getD i dStop=x) (h':x∉ss.take i):atF x ss=i:=by
 rcases atF_spec x ss with ⟨_,h2⟩|⟨j,h1,h2,h3,h4⟩
 ·exfalso;apply h2;rw[←h];exact getD_memS hi
 ·rcases Nat.lt_trichotomy i j with c|c|c
  ·exact (h4 (h▸mem_take_of hi c)).elim
  ·rw[h2,c]
  ·exact (h' (h3▸mem_take_of h1 c)).elim
theorem mem_take_lt {x:DStop} {ss:List DStop} {j:Nat} (h:x∈ss.take j):∃i,i<j∧i<ss.length∧ss.getD i dStop=x:=by
 obtain ⟨i,hi,e⟩:=List.mem_take_iff_getElem.1 h;exact ⟨i,by omega,by omega,by rw[getD_get (by omega)];exact e⟩
theorem mem_drop_ge {x:DStop} {ss:List DStop} {j:Nat} (h:x∈ss.drop j):∃i,j≤i∧i<ss.length∧ss.getD i dStop=x:=by
 obtain ⟨i,hi,e⟩:=List.mem_drop_iff_getElem.1 h;exact ⟨j+i,by omega,by omega,by rw[getD_get (by omega)];exact e⟩
theorem mem_drop_of {ss:List DStop} {i j:Nat} (h:i<ss.length) (hj:j≤i):ss.getD i dStop∈ss.drop j:=by
 rw[List.mem_drop_iff_getElem];exact ⟨i-j,by omega,by rw[getD_get h];congr 1;omega⟩
theorem RightS.at_eq {ss:List DStop} {rs:List DReq} (h:RightS ss rs) {i:Nat} (hi:i<ss.length):atF (ss.getD i dStop) ss=i:=atF_at hi rfl (h.2 i hi).2.2.1
theorem RightS.inj {ss:List DStop} {rs:List DReq} (h:RightS ss rs) {i j:Nat} (hi:i<ss.length) (hj:j<ss.length) (e:ss.getD i dStop=ss.getD j dStop):i=j:=by
 have h1:=h.at_eq hi;rw[e,h.at_eq hj] at h1;omega
theorem RightS.drop_after {ss:List DStop} {rs:List DReq} (h:RightS ss rs) {i:Nat} (hi:i<ss.length) (hp:(ss.getD i dStop).2=true):(i:Int)<atF ((ss.getD i dStop).1,false) ss:=by
 obtain ⟨j,h1,h2,h3⟩:=mem_drop_ge ((h.2 i hi).2.2.2 hp);have:=h.at_eq h2;rw[h3] at this;omega
def OkRef (ss:List DStop) (rs:List DReq) (i:Nat):Prop:=
 (0≤(ss.getD i dStop).1∧(ss.getD i dStop).1<rs.length)∧atF (ss.getD i dStop) ss=i∧placesB (reqLoad (rs.getD (ss.getD i dStop).1.toNat dReq))=true∧((ss.getD i dStop).2=true→(i:Int)<atF ((ss.getD i dStop).1,false) ss)
theorem right_ref {ss:List DStop} {rs:List DReq}:RightS ss rs↔(ss.length≤80∧rs.length≤30000)∧∀i,i<ss.length→OkRef ss rs i:=by
 constructor
 ·intro h;exact ⟨h.1,fun i hi=>⟨(h.2 i hi).1,h.at_eq hi,(h.2 i hi).2.1,h.drop_after hi⟩⟩
 ·rintro ⟨h0,h⟩;refine ⟨h0,fun i hi=>?_⟩;obtain ⟨h1,h2,h3,h4⟩:=h i hi;refine ⟨h1,h3,fun hm=>?_,fun hp=>?_⟩
  ·obtain ⟨j,hj,hjl,e⟩:=mem_take_lt hm;have:=(h j hjl).2.1;rw[e,h2] at this;omega
  ·have h5:=h4 hp;rcases atF_spec ((ss.getD i dStop).1,false) ss with ⟨q,_⟩|⟨j,q1,q2,q3,_⟩
   ·omega
   ·rw[←q3];exact mem_drop_of q1 (by omega)
def inB (ss:List DStop) (k j:Int):Bool:=decide (atF (k,true) ss<j)&&decide (j≤atF (k,false) ss)
theorem inB_iff {ss:List DStop} {k j:Int}:inB ss k j=true↔atF (k,true) ss<j∧j≤atF (k,false) ss:=by simp[inB]
def kset:List Int→Int→List Int
 |[],i=>[i]
 |p::r,i=>if p=i then i::r else p::kset r i
def kdel:List Int→Int→List Int
 |[],_=>[]
 |p::r,i=>if p=i then r else p::kdel r i
theorem mem_kset {k x:Int}:∀{ks:List Int},x∈kset ks k↔x∈ks∨x=k
 |[]=>by simp[kset]
 |p::r=>by
  unfold kset;split
  ·subst p;simp only[List.mem_cons];constructor
   ·rintro (h|h)<;>simp[h]
   ·rintro ((h|h)|h)<;>simp[h]
  ·simp only[List.mem_cons,mem_kset (ks:=r),or_assoc]
theorem kset_nodup {k:Int}:∀{ks:List Int},ks.Nodup→(kset ks k).Nodup
 |[],_=>by simp[kset]
 |p::r,h=>by
  rw[List.nodup_cons] at h;unfold kset;split
  ·rename_i e;rw[List.nodup_cons,←e];exact h
  ·rename_i e;rw[List.nodup_cons,mem_kset];exact ⟨fun q=>q.elim h.1 e,kset_nodup h.2⟩
theorem mem_kdel {k x:Int}:∀{ks:List Int},ks.Nodup→(x∈kdel ks k↔x∈ks∧x≠k)
 |[],_=>by simp[kdel]
 |p::r,h=>by
  rw[List.nodup_cons] at h;unfold kdel;split
  ·rename_i e;subst e;rw[List.mem_cons];constructor
   ·intro q;exact ⟨.inr q,fun z=>h.1 (z▸q)⟩
   ·rintro ⟨q|q,z⟩
    ·exact (z q).elim
    ·exact q
  ·rename_i e;rw[List.mem_cons,List.mem_cons,mem_kdel h.2];constructor
   ·rintro (q|⟨q,z⟩)
    ·exact ⟨.inl q,fun z=>e (q▸z)⟩
    ·exact ⟨.inr q,z⟩
   ·rintro ⟨q|q,z⟩
    ·exact .inl q
    ·exact .inr ⟨q,z⟩
theorem kdel_sub {k x:Int}:∀{ks:List Int},x∈kdel ks k→x∈ks
 |[],h=>by simp[kdel] at h
 |p::r,h=>by
  unfold kdel at h;split at h
  ·exact .tail _ h
  ·rcases List.mem_cons.1 h with q|q
   ·rw[q];exact .head _
   ·exact .tail _ (kdel_sub q)
theorem kdel_nodup {k:Int}:∀{ks:List Int},ks.Nodup→(kdel ks k).Nodup
 |[],_=>by simp[kdel]
 |p::r,h=>by
  rw[List.nodup_cons] at h;unfold kdel;split
  ·exact h.2
  ·rw[List.nodup_cons];exact ⟨fun q=>h.1 (kdel_sub q),kdel_nodup h.2⟩
def stopK (ks:List Int) (s:DStop):List Int:=if s.2=true then kset ks s.1 else kdel ks s.1
def dropK (ks:List Int) (s:DStop):List Int:=if s.2=true then ks else kset ks s.1
def pickK (ks:List Int) (s:DStop):List Int:=if s.2=true then kdel ks s.1 else ks
def dropsK (ss:List DStop):List Int:=ss.foldl dropK []
def firstK (ss ts:List DStop):List Int:=ts.foldl pickK (dropsK ss)
def cabK (ss:List DStop):Nat→List Int
 |0=>firstK ss ss
 |j+1=>stopK (cabK ss j) (ss.getD j dStop)
theorem take_next {ss:List DStop} {i:Nat} (h:i<ss.length):ss.take (i+1)=ss.take i++[ss.getD i dStop]:=by
 rw[getD_get h,List.take_append_getElem]
theorem dropsK_next {ss:List DStop} {i:Nat} (h:i<ss.length):dropsK (ss.take (i+1))=dropK (dropsK (ss.take i)) (ss.getD i dStop):=by
 unfold dropsK;rw[take_next h,List.foldl_append];rfl
theorem firstK_next {ss ts:List DStop} {i:Nat} (h:i<ts.length):firstK ss (ts.take (i+1))=pickK (firstK ss (ts.take i)) (ts.getD i dStop):=by
 unfold firstK;rw[take_next h,List.foldl_append];rfl
theorem drops_fold {x:Int}:∀(ss:List DStop) (ks:List Int),(x∈ss.foldl dropK ks↔x∈ks∨(x,false)∈ss)∧(ks.Nodup→(ss.foldl dropK ks).Nodup)
 |[],ks=>by simp
 |s::r,ks=>by
  obtain ⟨h1,h2⟩:=drops_fold (x:=x) r (dropK ks s);rw[List.foldl_cons];refine ⟨?_,fun h=>h2 ?_⟩
  ·rw[h1];obtain ⟨k,p⟩:=s;cases p<;>simp[dropK,mem_kset,or_assoc]
  ·unfold dropK;split
   ·exact h
   ·exact kset_nodup h
theorem picks_fold {x:Int}:∀(ss:List DStop) (ks:List Int),ks.Nodup→(x∈ss.foldl pickK ks↔x∈ks∧(x,true)∉ss)∧(ss.foldl pickK ks).Nodup
 |[],ks,h=>by simp[h]
 |s::r,ks,h=>by
  rw[List.foldl_cons];have hn:(pickK ks s).Nodup:=by
   unfold pickK;split
   ·exact kdel_nodup h
   ·exact h
  obtain ⟨h1,h2⟩:=picks_fold (x:=x) r (pickK ks s) hn;refine ⟨?_,h2⟩;rw[h1];obtain ⟨k,p⟩:=s;cases p
  ·simp[pickK]
  ·simp[pickK,mem_kdel h,and_assoc]
theorem first_mem {ss:List DStop} {x:Int}:(x∈firstK ss ss↔(x,false)∈ss∧(x,true)∉ss)∧(firstK ss ss).Nodup:=by
 have h:=drops_fold (x:=x) ss [];have h2:=picks_fold (x:=x) ss (dropsK ss) (h.2 (by simp));refine ⟨?_,h2.2⟩;unfold firstK;rw[h2.1];unfold dropsK;rw[h.1];simp
theorem at_mem {x:DStop} {ss:List DStop}:0≤atF x ss↔x∈ss:=by
 rcases atF_spec x ss with ⟨h1,h2⟩|⟨i,h1,h2,h3,h4⟩
 ·rw[h1];simp[h2]
 ·rw[h2,←h3];exact ⟨fun _=>getD_memS h1,fun _=>by omega⟩
theorem cab_mem {ss:List DStop} {rs:List DReq} (h:RightS ss rs):∀{j:Nat},j≤ss.length→(cabK ss j).Nodup∧∀x,x∈cabK ss j↔inB ss x j=true
 |0,_=>by
  refine ⟨(first_mem (x:=0)).2,fun x=>?_⟩;show x∈firstK ss ss↔_;rw[first_mem.1,inB_iff,←at_mem,←at_mem];constructor
  ·rintro ⟨h1,h2⟩;exact ⟨by simpa using h2,by simpa using h1⟩
  ·rintro ⟨h1,h2⟩;exact ⟨by simpa using h2,by simpa using h1⟩
 |j+1,hj=>by
  obtain ⟨h1,h2⟩:=cab_mem h (j:=j) (by omega);have hjl:j<ss.length:=by omega
  have ha:=h.at_eq hjl;have hd:=h.drop_after hjl;have hne:∀y,y≠ss.getD j dStop→atF y ss≠j:=fun y hy q=>by
   rcases atF_spec y ss with ⟨q1,_⟩|⟨i,q1,q2,q3,_⟩
   ·omega
   ·have:i=j:=by omega
    subst this;exact hy q3.symm
  unfold cabK;generalize ss.getD j dStop=s at ha hd hne⊢;obtain ⟨k,p⟩:=s;cases p
  ·refine ⟨by simpa [stopK] using kdel_nodup h1,fun x=>?_⟩;have e:stopK (cabK ss j) (k,false)=kdel (cabK ss j) k:=rfl;rw[e,mem_kdel h1,h2,inB_iff,inB_iff];have q1:=hne (x,true) (by simp);have q2:=fun z:x≠k=>hne (x,false) (by simpa using z);constructor
   ·rintro ⟨⟨h3,h4⟩,h5⟩;have:=q2 h5;omega
   ·rintro ⟨h3,h4⟩;refine ⟨by omega,fun z=>?_⟩;subst z;omega
  ·refine ⟨by simpa [stopK] using kset_nodup h1,fun x=>?_⟩;have e:stopK (cabK ss j) (k,true)=kset (cabK ss j) k:=rfl;rw[e,mem_kset,h2,inB_iff,inB_iff];have q1:=hne (x,false) (by simp);have q2:=fun z:x≠k=>hne (x,true) (by simpa using z);have h6:=hd rfl;constructor
   ·rintro (⟨h3,h4⟩|h3)
    ·omega
    ·subst h3;have h6:(j:Int)<atF (x,false) ss:=h6;omega
   ·rintro ⟨h3,h4⟩;by_cases z:x=k
    ·exact .inr z
    ·have:=q2 z;left;omega
theorem RightS.in_req {ss:List DStop} {rs:List DReq} (h:RightS ss rs) {k:Int} {j:Nat} (hk:inB ss k j=true):(0≤k∧k<rs.length)∧placesB (reqLoad (rs.getD k.toNat dReq))=true:=by
 rw[inB_iff] at hk;have hm:(k,false)∈ss:=at_mem.1 (by omega);rcases atF_spec (k,false) ss with ⟨q,_⟩|⟨i,h1,_,h3,_⟩
 ·omega
 ·have h4:=h.2 i h1;unfold OkAt at h4;rw[h3] at h4;exact ⟨h4.1,h4.2.1⟩
def add3 (a b:DLoad):DLoad:=(a.1+b.1,a.2.1+b.2.1,a.2.2+b.2.2)
theorem add3_comm (a b:DLoad):add3 a b=add3 b a:=by unfold add3;simp[Int.add_comm]
theorem add3_assoc (a b c:DLoad):add3 (add3 a b) c=add3 a (add3 b c):=by unfold add3;simp[Int.add_assoc]
theorem add3_zero (a:DLoad):add3 a (0,0,0)=a:=by unfold add3;simp
theorem zero_add3 (a:DLoad):add3 (0,0,0) a=a:=by unfold add3;simp
def sumTo (f:Nat→DLoad):Nat→DLoad
 |0=>(0,0,0)
 |n+1=>add3 (sumTo f n) (f n)
theorem sumTo_congr {f g:Nat→DLoad}:∀{n:Nat},(∀i,i<n→f i=g i)→sumTo f n=sumTo g n
 |0,_=>rfl
 |n+1,h=>by unfold sumTo;rw[sumTo_congr (n:=n) (fun i hi=>h i (by omega)),h n (by omega)]
def rl (rs:List DReq) (k:Int):DLoad:=reqLoad (rs.getD k.toNat dReq)
def sumK (rs:List DReq):List Int→DLoad
 |[]=>(0,0,0)
 |k::ks=>add3 (rl rs k) (sumK rs ks)
def afterF (ss:List DStop) (rs:List DReq) (j:Int):DLoad:=sumTo (fun i=>if inB ss i j=true then rl rs i else (0,0,0)) rs.length
theorem sumK_erase {rs:List DReq} {k:Int}:∀{ks:List Int},k∈ks→sumK rs ks=add3 (rl rs k) (sumK rs (kdel ks k))
 |[],h=>by simp at h
 |p::r,h=>by
  unfold kdel;split
  ·rename_i e;rw[←e];rfl
  ·rename_i e;have hr:k∈r:=by rcases List.mem_cons.1 h with q|q;exact (e q.symm).elim;exact q
   rw[sumK,sumK_erase hr,←add3_assoc,add3_comm (rl rs p),add3_assoc];rfl
theorem sumK_to {rs:List DReq}:∀{n:Nat} {ks:List Int},ks.Nodup→(∀k∈ks,0≤k∧k<n)→sumK rs ks=sumTo (fun i=>if (i:Int)∈ks then rl rs i else (0,0,0)) n
 |0,ks,hn,hk=>by
  cases ks with
  |nil=>rfl
  |cons k r=>have:=hk k (by simp);omega
 |n+1,ks,hn,hk=>by
  have hn':=kdel_nodup (k:=(n:Int)) hn;have hk':∀k∈kdel ks n,0≤k∧k<(n:Int):=fun k q=>by
   have q2:=(mem_kdel hn).1 q;have:=hk k q2.1;have:=q2.2;omega
  have ih:=sumK_to (rs:=rs) hn' hk';unfold sumTo;by_cases c:(n:Int)∈ks
  ·rw[sumK_erase c,if_pos c,ih,add3_comm];congr 1;refine sumTo_congr fun i hi=>?_;have:((i:Int)∈kdel ks n)↔(i:Int)∈ks:=by rw[mem_kdel hn];exact ⟨fun q=>q.1,fun q=>⟨q,by omega⟩⟩
   simp[this]
  ·rw[if_neg c,add3_zero];exact sumK_to hn fun k q=>by
    have:=hk k q;have:k≠n:=fun e=>c (e▸q);omega
theorem cab_load {ss:List DStop} {rs:List DReq} (h:RightS ss rs) {j:Nat} (hj:j≤ss.length):sumK rs (cabK ss j)=afterF ss rs j:=by
 obtain ⟨h1,h2⟩:=cab_mem h hj;rw[sumK_to (n:=rs.length) h1 fun k hk=>(h.in_req ((h2 k).1 hk)).1];unfold afterF;refine sumTo_congr fun i _=>?_;simp only[h2]
theorem sumTo_bd {f:Nat→DLoad}:∀{n:Nat},(∀i,i<n→placesB (f i)=true)→(0≤(sumTo f n).1∧(sumTo f n).1≤60*n)∧(0≤(sumTo f n).2.1∧(sumTo f n).2.1≤60*n)∧0≤(sumTo f n).2.2∧(sumTo f n).2.2≤60*n
 |0,_=>by simp[sumTo]
 |n+1,h=>by
  have h1:=sumTo_bd (n:=n) fun i hi=>h i (by omega);have h2:=placesB_iff.1 (h n (by omega));unfold sumTo add3;simp only;omega
theorem after_part {ss:List DStop} {rs:List DReq} (h:RightS ss rs) (j:Nat) (i:Nat):placesB (if inB ss i j=true then rl rs i else (0,0,0))=true:=by
 split
 ·rename_i c;exact (h.in_req c).2
 ·rfl
def loadsF (ss:List DStop) (rs:List DReq):List DLoad:=(List.range (ss.length+1)).map fun j=>afterF ss rs (j:Nat)
def profF (ss:List DStop) (rs:List DReq):List DLoad×Int:=if rightS ss rs=true then (loadsF ss rs,0) else ([],1)
def overB (x c:DLoad):Bool:=decide (c.1<x.1)||(decide (c.2.1<x.2.1)||decide (c.2.2<x.2.2))
abbrev DCar:=Int×Int×Int×Int×Int×Int×Int×Int×Int
def carLoad (c:DCar):DLoad:=(c.2.2.2.2.1,c.2.2.2.2.2.1,c.2.2.2.2.2.2.1)
def overF (c:DLoad) (l:List DLoad):Int:=idxF (fun x=>overB x c) l
theorem profF_len {ss:List DStop} {rs:List DReq}:(profF ss rs).1.length≤81:=by
 unfold profF;split
 ·rename_i h;have hr:RightS ss rs:=of_decide_eq_true h;have:=hr.1.1;show (loadsF ss rs).length≤81;unfold loadsF;rw[List.length_map,List.length_range];omega
 ·exact Nat.zero_le _
theorem profF_ok {ss:List DStop} {rs:List DReq}:(profF ss rs).2=0↔rightS ss rs=true:=by
 unfold profF;split<;>simp_all
def fitsF (c:DLoad) (ss:List DStop) (rs:List DReq):Int×Int:=
 if rightS ss rs=true∧placesB c=true then (if 0≤overF c (loadsF ss rs) then (overF c (loadsF ss rs),27) else (0,0)) else (0,1)
theorem fits_bad {c:DLoad} {ss:List DStop} {rs:List DReq} (h:¬(profF ss rs).2=0∨placesB c=false):fitsF c ss rs=(0,1):=by
 unfold fitsF;rw[if_neg];rintro ⟨h1,h2⟩;rcases h with h|h
 ·exact h (profF_ok.2 h1)
 ·rw[h] at h2;cases h2
theorem fits_full {c:DLoad} {ss:List DStop} {rs:List DReq} (h:(profF ss rs).2=0∧placesB c=true) (h2:0≤overF c (profF ss rs).1):fitsF c ss rs=(overF c (profF ss rs).1,27):=by
 have h1:=profF_ok.1 h.1;unfold fitsF profF at*;rw[if_pos ⟨h1,h.2⟩];rw[if_pos h1] at h2⊢;rw[if_pos h2]
theorem fits_ok {c:DLoad} {ss:List DStop} {rs:List DReq} (h:(profF ss rs).2=0∧placesB c=true) (h2:overF c (profF ss rs).1<0):fitsF c ss rs=(0,0):=by
 have h1:=profF_ok.1 h.1;unfold fitsF profF at*;rw[if_pos ⟨h1,h.2⟩];rw[if_pos h1] at h2;dsimp only at h2;rw[if_neg (by omega)]
def ridesB (ss:List DStop) (rs:List DReq) (m:Int) (j:Nat):Bool:=(List.range rs.length).any fun i=>decide ((rs.getD i dReq).1=m)&&inB ss i j
abbrev DPair:=Int×Int×Bool
def someTo (ss:List DStop) (rs:List DReq) (p:DPair) (n:Nat):Bool:=(List.range n).any fun j=>ridesB ss rs p.1 j||ridesB ss rs p.2.1 j
def bothTo (ss:List DStop) (rs:List DReq) (p:DPair) (n:Nat):Bool:=(List.range n).any fun j=>ridesB ss rs p.1 j&&ridesB ss rs p.2.1 j
theorem someTo_next (ss:List DStop) (rs:List DReq) (p:DPair) (n:Nat):someTo ss rs p (n+1)=(someTo ss rs p n||ridesB ss rs p.1 n||ridesB ss rs p.2.1 n):=by
 unfold someTo;rw[List.range_succ,List.any_append];simp[Bool.or_assoc]
theorem bothTo_next (ss:List DStop) (rs:List DReq) (p:DPair) (n:Nat):bothTo ss rs p (n+1)=(bothTo ss rs p n||(ridesB ss rs p.1 n&&ridesB ss rs p.2.1 n)):=by
 unfold bothTo;rw[List.range_succ,List.any_append];simp
def someB (ss:List DStop) (rs:List DReq) (p:DPair):Bool:=someTo ss rs p (ss.length+1)
def bothB (ss:List DStop) (rs:List DReq) (p:DPair):Bool:=bothTo ss rs p (ss.length+1)
def pairB (ss:List DStop) (rs:List DReq) (p:DPair):Bool:=if p.2.2=true then !someB ss rs p||bothB ss rs p else !bothB ss rs p
def togF (ps:List DPair) (ss:List DStop) (rs:List DReq):Bool:=rightS ss rs&&ps.all (pairB ss rs)
theorem tog_no {ps:List DPair} {ss:List DStop} {rs:List DReq} {n:Nat} (hn:n<ps.length) (h:pairB ss rs (ps.getD n (0,0,false))=false):false=togF ps ss rs:=by
 symm;unfold togF;rw[Bool.and_eq_false_iff];right;rw[List.all_eq_false];refine ⟨ps.getD n (0,0,false),?_,by rw[h];simp⟩;simp[List.getD,hn]
theorem tog_yes {ps:List DPair} {ss:List DStop} {rs:List DReq} (hr:rightS ss rs=true) (h:∀i,i<ps.length→pairB ss rs (ps.getD i (0,0,false))=true):true=togF ps ss rs:=by
 symm;unfold togF;rw[hr,Bool.true_and,List.all_eq_true];intro p hp;obtain ⟨i,hi,rfl⟩:=List.getElem_of_mem hp;have:=h i hi;rwa [List.getD,List.getElem?_eq_getElem hi] at this
end Go.Proofs.YtpocfbfmjippnaaGreat
end
section
namespace Go.Proofs.YtpocfbfmjippnaaGreat
abbrev DWin:=Int×Int
abbrev DLeg:=Int×Int
abbrev DRide:=Int×Int×Int
abbrev DChain:=List DWin×List DLeg×List DRide
def winB (w:DWin):Bool:=decide (0≤w.1∧w.1≤w.2∧w.2≤1048576)
def legB (l:DLeg):Bool:=decide (0≤l.1∧l.1≤l.2∧l.2≤1048576)
def rideB (n:Int) (r:DRide):Bool:=decide (0≤r.1∧r.1<r.2.1∧r.2.1<n∧0≤r.2.2∧r.2.2≤1048576)
def rightC (c:DChain):Bool:=
 decide (1≤c.1.length∧c.1.length≤82∧c.2.1.length+1=c.1.length∧c.2.2.length≤200)&&(c.1.all winB&&(c.2.1.all legB&&c.2.2.all (rideB (c.1.length:Int))))
theorem rightC_iff {c:DChain}:rightC c=true↔(1≤c.1.length∧c.1.length≤82∧c.2.1.length+1=c.1.length∧c.2.2.length≤200)∧(∀w∈c.1,0≤w.1∧w.1≤w.2∧w.2≤1048576)∧(∀l∈c.2.1,0≤l.1∧l.1≤l.2∧l.2≤1048576)∧∀r∈c.2.2,0≤r.1∧r.1<r.2.1∧r.2.1<c.1.length∧0≤r.2.2∧r.2.2≤1048576:=by
 unfold rightC;simp only[Bool.and_eq_true,decide_eq_true_eq,List.all_eq_true];unfold winB legB rideB;simp only[decide_eq_true_eq]
def tmF (g took:List Int):Nat→Int
 |0=>if 0<g.getD 0 0 then g.getD 0 0 else 0
 |k+1=>if tmF g took k+took.getD k 0<g.getD (k+1) 0 then g.getD (k+1) 0 else tmF g took k+took.getD k 0
def playF (g took:List Int):List Int:=(List.range (took.length+1)).map (tmF g took)
theorem playF_len (g took:List Int):(playF g took).length=took.length+1:=by unfold playF;rw[List.length_map,List.length_range]
theorem range_getD (f:Nat→Int) {n k:Nat} (h:k<n):((List.range n).map f).getD k 0=f k:=by
 simp[List.getD,h]
theorem playF_getD (g took:List Int) {k:Nat} (h:k≤took.length):(playF g took).getD k 0=tmF g took k:=range_getD _ (by omega)
theorem range_snoc (f:Nat→Int) (n:Nat):(List.range n).map f++[f n]=(List.range (n+1)).map f:=by rw[List.range_succ,List.map_append];rfl
def Within (a b:Int) (l:List Int):Prop:=∀x∈l,a≤x∧x≤b
theorem Within.getD {a b:Int} {l:List Int} (h:Within a b l) (ha:a≤0) (hb:0≤b) (k:Nat):a≤l.getD k 0∧l.getD k 0≤b:=by
 by_cases c:k<l.length
 ·have:l.getD k 0∈l:=by
   rw[List.getD_eq_getElem?_getD,List.getElem?_eq_getElem c];exact List.getElem_mem c
  exact h _ this
 ·rw[List.getD_eq_getElem?_getD,List.getElem?_eq_none (by omega)];exact ⟨ha,hb⟩
theorem tmF_bd {g took:List Int} (hg:Within 0 2097152 g) (ht:Within 0 1048576 took):∀k,0≤tmF g took k∧tmF g took k≤2097152+1048576*k
 |0=>by
  have:=hg.getD (Int.le_refl _) (by omega) 0;unfold tmF;split<;>omega
 |k+1=>by
  have h1:=tmF_bd hg ht k;have h2:=hg.getD (Int.le_refl _) (by omega) (k+1);have h3:=ht.getD (Int.le_refl _) (by omega) k;unfold tmF;split<;>omega
def fitsG (c:DChain) (g:List Int):Bool:=rightC c&&(decide (g.length=c.1.length)&&g.all fun n=>decide (0≤n∧n≤2097152))
theorem fitsG_iff {c:DChain} {g:List Int}:fitsG c g=true↔rightC c=true∧g.length=c.1.length∧Within 0 2097152 g:=by
 unfold fitsG Within;simp only[Bool.and_eq_true,decide_eq_true_eq,List.all_eq_true]
def tookB (l:List DLeg) (t:List Int):Bool:=decide (t.length=l.length)&&(List.range l.length).all fun k=>decide ((l.getD k (0,0)).1≤t.getD k 0∧t.getD k 0≤(l.getD k (0,0)).2)
theorem tookB_iff {l:List DLeg} {t:List Int}:tookB l t=true↔t.length=l.length∧∀k,k<l.length→(l.getD k (0,0)).1≤t.getD k 0∧t.getD k 0≤(l.getD k (0,0)).2:=by
 unfold tookB;simp only[Bool.and_eq_true,decide_eq_true_eq,List.all_eq_true,List.mem_range]
def rnF (c:DChain) (g t:List Int):List Int×Int:=if fitsG c g=true∧tookB c.2.1 t=true then (playF g t,0) else ([],1)
def highsF (l:List DLeg):List Int:=l.map (·.2)
def lowsF (l:List DLeg):List Int:=l.map (·.1)
def worstF (c:DChain) (g:List Int):List Int×Int:=if fitsG c g=true then (playF g (highsF c.2.1),0) else ([],1)
def keepsF (c:DChain) (t:List Int):Bool:=
 rightC c&&(decide (t.length=c.1.length)&&((List.range c.1.length).all (fun k=>decide ((c.1.getD k (0,0)).1≤t.getD k 0∧t.getD k 0≤(c.1.getD k (0,0)).2))&&c.2.2.all fun r=>decide (t.getD r.2.1.toNat 0-t.getD r.1.toNat 0≤r.2.2)))
theorem keepsF_iff {c:DChain} {t:List Int}:keepsF c t=true↔rightC c=true∧t.length=c.1.length∧(∀k,k<c.1.length→(c.1.getD k (0,0)).1≤t.getD k 0∧t.getD k 0≤(c.1.getD k (0,0)).2)∧∀r∈c.2.2,t.getD r.2.1.toNat 0-t.getD r.1.toNat 0≤r.2.2:=by
 unfold keepsF;simp only[Bool.and_eq_true,decide_eq_true_eq,List.all_eq_true,List.mem_range]
theorem getD_mem2 {α:Type} {d:α} {l:List α} {k:Nat} (h:k<l.length):l.getD k d∈l:=by
 rw[List.getD_eq_getElem?_getD,List.getElem?_eq_getElem h];exact List.getElem_mem h
theorem right_leg {c:DChain} (h:rightC c=true) {k:Nat} (hk:k<c.2.1.length):0≤(c.2.1.getD k (0,0)).1∧(c.2.1.getD k (0,0)).1≤(c.2.1.getD k (0,0)).2∧(c.2.1.getD k (0,0)).2≤1048576:=(rightC_iff.1 h).2.2.1 _ (getD_mem2 hk)
theorem right_win {c:DChain} (h:rightC c=true) {k:Nat} (hk:k<c.1.length):0≤(c.1.getD k (0,0)).1∧(c.1.getD k (0,0)).1≤(c.1.getD k (0,0)).2∧(c.1.getD k (0,0)).2≤1048576:=(rightC_iff.1 h).2.1 _ (getD_mem2 hk)
theorem right_ride {c:DChain} (h:rightC c=true) {k:Nat} (hk:k<c.2.2.length):0≤(c.2.2.getD k (0,0,0)).1∧(c.2.2.getD k (0,0,0)).1<(c.2.2.getD k (0,0,0)).2.1∧(c.2.2.getD k (0,0,0)).2.1<c.1.length∧0≤(c.2.2.getD k (0,0,0)).2.2∧(c.2.2.getD k (0,0,0)).2.2≤1048576:=(rightC_iff.1 h).2.2.2 _ (getD_mem2 hk)
theorem highs_len (l:List DLeg):(highsF l).length=l.length:=List.length_map _
theorem lows_len (l:List DLeg):(lowsF l).length=l.length:=List.length_map _
theorem highs_getD (l:List DLeg) (k:Nat):(highsF l).getD k 0=(l.getD k (0,0)).2:=by
 unfold highsF;simp only[List.getD,List.getElem?_map];cases l[k]?<;>rfl
theorem lows_getD (l:List DLeg) (k:Nat):(lowsF l).getD k 0=(l.getD k (0,0)).1:=by
 unfold lowsF;simp only[List.getD,List.getElem?_map];cases l[k]?<;>rfl
theorem highs_within {c:DChain} (h:rightC c=true):Within 0 1048576 (highsF c.2.1):=by
 intro x hx;obtain ⟨l,hl,rfl⟩:=List.mem_map.1 hx;have:=(rightC_iff.1 h).2.2.1 l hl;omega
theorem took_within {c:DChain} (h:rightC c=true) {t:List Int} (ht:tookB c.2.1 t=true):Within 0 1048576 t:=by
 obtain ⟨h1,h2⟩:=tookB_iff.1 ht;intro x hx;obtain ⟨k,hk,rfl⟩:=List.getElem_of_mem hx;have h3:=h2 k (by omega);have h4:=right_leg h (k:=k) (by omega);have:t.getD k 0=t[k]:=by simp[List.getD,hk]
 omega
end Go.Proofs.YtpocfbfmjippnaaGreat
end
section
namespace Go.Proofs.YtpocfbfmjippnaaGreat
abbrev DShift:=Int×Int×Int
def longB (n:Int):Bool:=decide (1≤n∧n≤1048576)
def rightK (s:DShift) (l w:List DLeg):Bool:=(longB s.1&&(longB s.2.1&&longB s.2.2))&&(decide (l.length≤80∧w.length=l.length)&&(l.all legB&&w.all legB))
def drvF (rest:Int) (l w:List Int):Nat→Int
 |0=>0
 |j+1=>(if w.getD j 0≥rest then 0 else drvF rest l w j)+l.getD j 0
def wrkF (l w:List Int):Nat→Int
 |0=>0
 |j+1=>wrkF l w j+(if 0<j then w.getD j 0 else 0)+l.getD j 0
theorem drv_bd {rest:Int} {l w:List Int} (hl:Within 0 1048576 l):∀j,0≤drvF rest l w j∧drvF rest l w j≤1048576*j
 |0=>⟨Int.le_refl _,Int.le_refl _⟩
 |j+1=>by
  have h1:=drv_bd (rest:=rest) (w:=w) hl j;have h2:=hl.getD (Int.le_refl _) (by omega) j;unfold drvF;split<;>omega
theorem wrk_bd {l w:List Int} (hl:Within 0 1048576 l) (hw:Within 0 1048576 w):∀j,0≤wrkF l w j∧wrkF l w j≤2097152*j
 |0=>⟨Int.le_refl _,Int.le_refl _⟩
 |j+1=>by
  have h1:=wrk_bd hl hw j;have h2:=hl.getD (Int.le_refl _) (by omega) j;have h3:=hw.getD (Int.le_refl _) (by omega) j;unfold wrkF;split<;>omega
def badK (s:DShift) (l w:List DLeg) (j:Nat):Bool:=decide (drvF s.2.1 (highsF l) (lowsF w) (j+1)>s.1)||decide (wrkF (highsF l) (highsF w) (j+1)>s.2.2)
def fstK (s:DShift) (l w:List DLeg):Int:=idxF (badK s l w) (List.range l.length)
def checkK (s:DShift) (l w:List DLeg):Int×Int:=if rightK s l w=false then (0,1) else if fstK s l w<0 then (0,0) else (fstK s l w,29)
theorem range_at {n k:Nat} (h:k<n):(List.range n).getD k 0=k:=by simp[List.getD,h]
theorem fstK_at {s:DShift} {l w:List DLeg} {k:Nat} (hk:k<l.length) (h:∀j,j<k→badK s l w j=false) (hb:badK s l w k=true):fstK s l w=k:=by
 unfold fstK;refine idxF_at (d:=0) (by rw[List.length_range];exact hk) (fun j hj=>?_) ?_
 ·rw[range_at (by omega)];exact h j hj
 ·rw[range_at hk];exact hb
theorem fstK_none {s:DShift} {l w:List DLeg} (h:∀j,j<l.length→badK s l w j=false):fstK s l w= -1:=by
 unfold fstK;refine idxF_none (d:=0) fun j hj=>?_;rw[List.length_range] at hj;rw[range_at hj];exact h j hj
theorem rightK_iff {s:DShift} {l w:List DLeg}:rightK s l w=true↔(longB s.1=true∧longB s.2.1=true∧longB s.2.2=true)∧(l.length≤80∧w.length=l.length)∧(∀x∈l,legB x=true)∧∀x∈w,legB x=true:=by
 unfold rightK;simp only[Bool.and_eq_true,decide_eq_true_eq,List.all_eq_true]
theorem legs_high {l:List DLeg} (h:∀x∈l,legB x=true):Within 0 1048576 (highsF l):=by
 intro x hx;obtain ⟨y,hy,rfl⟩:=List.mem_map.1 hx;have:=of_decide_eq_true (h y hy);omega
end Go.Proofs.YtpocfbfmjippnaaGreat
end
section
namespace Go.Proofs.YtpocfbfmjippnaaGreat
def psF (L:List DLeg):Nat→Int
 |0=>0
 |k+1=>psF L k+(L.getD k (0,0)).2
theorem psF_bd {c:DChain} (h:rightC c=true):∀k,0≤psF c.2.1 k∧psF c.2.1 k≤1048576*k
 |0=>⟨Int.le_refl _,Int.le_refl _⟩
 |k+1=>by
  have h1:=psF_bd h k;have h2:=(highs_within h).getD (Int.le_refl _) (by omega) k;rw[highs_getD] at h2;unfold psF;omega
theorem psF_mono {c:DChain} (h:rightC c=true) {a b:Nat} (hab:a≤b):psF c.2.1 a≤psF c.2.1 b∧psF c.2.1 b-psF c.2.1 a≤1048576*(b-a:Int):=by
 induction b with
 |zero=>
  obtain rfl:a=0:=by omega
  omega
 |succ b ih=>
  rcases Nat.lt_or_ge b a with hc|hc
  ·obtain rfl:a=b+1:=by omega
   omega
  ·have h1:=ih hc;have h2:=(highs_within h).getD (Int.le_refl _) (by omega) b;rw[highs_getD] at h2;have e:psF c.2.1 (b+1)=psF c.2.1 b+(c.2.1.getD b (0,0)).2:=rfl;omega
def maxI (a b:Int):Int:=if a<b then b else a
def mF (c:DChain) (k:Nat) (rest:List Int) (r:DRide) (a:Int):Nat→Int
 |0=>a
 |i+1=>maxI (mF c k rest r a i) (rest.getD i 0+(psF c.2.1 r.2.1.toNat-psF c.2.1 (k+1+i))-r.2.2)
def rF (c:DChain) (k:Nat) (rest:List Int) (a:Int) (r:DRide):Int:=if r.1=k then mF c k rest r a (r.2.1.toNat-k) else a
def gkF (c:DChain) (k:Nat) (rest:List Int):Int:=c.2.2.foldl (rF c k rest) (c.1.getD k (0,0)).1
def gsF (c:DChain):Nat→List Int
 |0=>[]
 |j+1=>gkF c (c.1.length-1-j) (gsF c j)::gsF c j
theorem gsF_len (c:DChain):∀j,(gsF c j).length=j
 |0=>rfl
 |j+1=>by unfold gsF;rw[List.length_cons,gsF_len]
def lateR (c:DChain) (r:DRide):Bool:=decide (psF c.2.1 r.2.1.toNat-psF c.2.1 r.1.toNat>r.2.2)
theorem maxI_ge (a b:Int):a≤maxI a b∧b≤maxI a b∧(maxI a b=a∨maxI a b=b):=by unfold maxI;split<;>omega
theorem mF_bd {c:DChain} (h:rightC c=true) {k:Nat} {rest:List Int} {r:DRide} (hr:r∈c.2.2) (hk:r.1=k) {B:Int} (hB:0≤B) (hw:Within 0 B rest) {a:Int} (h0:0≤a) (ha:a≤B+85983232):
  ∀i,i≤r.2.1.toNat-k→0≤mF c k rest r a i∧mF c k rest r a i≤B+85983232
 |0,_=>⟨h0,ha⟩
 |i+1,hi=>by
  have h1:=mF_bd h hr hk hB hw h0 ha i (by omega);have h2:=hw.getD (Int.le_refl _) hB i;have hrr:=(rightC_iff.1 h).2.2.2 r hr;have hn:=(rightC_iff.1 h).1;have h3:=psF_mono h (a:=k+1+i) (b:=r.2.1.toNat) (by omega);have h4:=maxI_ge (mF c k rest r a i) (rest.getD i 0+(psF c.2.1 r.2.1.toNat-psF c.2.1 (k+1+i))-r.2.2);unfold mF;omega
theorem rF_bd {c:DChain} (h:rightC c=true) {k:Nat} {rest:List Int} {r:DRide} (hr:r∈c.2.2) {B:Int} (hB:0≤B) (hw:Within 0 B rest) {a:Int} (h0:0≤a) (ha:a≤B+85983232):0≤rF c k rest a r∧rF c k rest a r≤B+85983232:=by
 unfold rF;split
 ·rename_i e;exact mF_bd h hr e hB hw h0 ha _ (Nat.le_refl _)
 ·exact ⟨h0,ha⟩
theorem fold_bd {c:DChain} (h:rightC c=true) {k:Nat} {rest:List Int} {B:Int} (hB:0≤B) (hw:Within 0 B rest):∀(l:List DRide),(∀r∈l,r∈c.2.2)→∀a:Int,0≤a→a≤B+85983232→0≤l.foldl (rF c k rest) a∧l.foldl (rF c k rest) a≤B+85983232
 |[],_,a,h0,ha=>⟨h0,ha⟩
 |r::l,hl,a,h0,ha=>by
  have h1:=rF_bd h (k:=k) (hl r (by simp)) hB hw h0 ha;exact fold_bd h hB hw l (fun x hx=>hl x (by simp[hx])) _ h1.1 h1.2
theorem gs_bd {c:DChain} (h:rightC c=true):∀j,j≤c.1.length→Within 0 (85983232*(j+1)) (gsF c j)
 |0,_=>fun x hx=>absurd hx List.not_mem_nil
 |j+1,hj=>by
  have h1:=gs_bd h j (by omega);have h2:=right_win h (k:=c.1.length-1-j) (by omega);have h3:=fold_bd h (k:=c.1.length-1-j) (B:=85983232*(j+1)) (by omega) h1 c.2.2 (fun r hr=>hr) (c.1.getD (c.1.length-1-j) (0,0)).1 h2.1 (by omega);intro x hx;unfold gsF at hx;rcases List.mem_cons.1 hx with rfl|hx
  ·unfold gkF;omega
  ·have:=h1 x hx;omega
theorem mF_low {c:DChain} (h:rightC c=true) {k:Nat} {rest:List Int} {r:DRide} (hr:r∈c.2.2) (hk:r.1=k) (hl:lateR c r=false) (hw:Within 0 1048576 rest) {a:Int} (h0:0≤a) (ha:a≤1048576):
  ∀i,i≤r.2.1.toNat-k→0≤mF c k rest r a i∧mF c k rest r a i≤1048576
 |0,_=>⟨h0,ha⟩
 |i+1,hi=>by
  have h1:=mF_low h hr hk hl hw h0 ha i (by omega);have h2:=hw.getD (Int.le_refl _) (by omega) i;have hrr:=(rightC_iff.1 h).2.2.2 r hr;have h3:=psF_mono h (a:=k) (b:=k+1+i) (by omega);have h4:=maxI_ge (mF c k rest r a i) (rest.getD i 0+(psF c.2.1 r.2.1.toNat-psF c.2.1 (k+1+i))-r.2.2);unfold lateR at hl;rw[hk,Int.toNat_natCast] at hl;have hl:=of_decide_eq_false hl;unfold mF;omega
theorem fold_low {c:DChain} (h:rightC c=true) {k:Nat} {rest:List Int} (hw:Within 0 1048576 rest):∀(l:List DRide),(∀r∈l,r∈c.2.2∧lateR c r=false)→∀a:Int,0≤a→a≤1048576→0≤l.foldl (rF c k rest) a∧l.foldl (rF c k rest) a≤1048576
 |[],_,a,h0,ha=>⟨h0,ha⟩
 |r::l,hl,a,h0,ha=>by
  have h1:0≤rF c k rest a r∧rF c k rest a r≤1048576:=by
   unfold rF;split
   ·rename_i e;exact mF_low h (hl r (by simp)).1 e (hl r (by simp)).2 hw h0 ha _ (Nat.le_refl _)
   ·exact ⟨h0,ha⟩
  exact fold_low h hw l (fun x hx=>hl x (by simp[hx])) _ h1.1 h1.2
theorem gs_low {c:DChain} (h:rightC c=true) (hl:∀r∈c.2.2,lateR c r=false):∀j,j≤c.1.length→Within 0 1048576 (gsF c j)
 |0,_=>fun x hx=>absurd hx List.not_mem_nil
 |j+1,hj=>by
  have h1:=gs_low h hl j (by omega);have h2:=right_win h (k:=c.1.length-1-j) (by omega);have h3:=fold_low h (k:=c.1.length-1-j) h1 c.2.2 (fun r hr=>⟨hr,hl r hr⟩) (c.1.getD (c.1.length-1-j) (0,0)).1 h2.1 (by omega);intro x hx;unfold gsF at hx;rcases List.mem_cons.1 hx with rfl|hx
  ·exact h3
  ·exact h1 x hx
theorem gs_fits {c:DChain} (h:rightC c=true) (hl:∀r∈c.2.2,lateR c r=false):fitsG c (gsF c c.1.length)=true:=
 fitsG_iff.2 ⟨h,gsF_len _ _,fun x hx=>by have:=gs_low h hl _ (Nat.le_refl _) x hx;omega⟩
def inTime (c:DChain) (t:List Int):Bool:=(List.range t.length).all fun k=>decide (t.getD k 0≤(c.1.getD k (0,0)).2)
theorem inTime_iff {c:DChain} {t:List Int}:inTime c t=true↔ ∀k,k<t.length→t.getD k 0≤(c.1.getD k (0,0)).2:=by
 unfold inTime;simp only[decide_eq_true_eq,List.all_eq_true,List.mem_range]
def guardF (c:DChain):List Int×Int:=
 if rightC c=false then ([],1) else if c.2.2.any (lateR c)=true then ([],20)
 else if inTime c (playF (gsF c c.1.length) (highsF c.2.1))=false then ([],20) else (gsF c c.1.length,0)
theorem late_any {c:DChain}:c.2.2.any (lateR c)=true↔ ∃r∈c.2.2,lateR c r=true:=List.any_eq_true
theorem late_none {c:DChain} (h:¬c.2.2.any (lateR c)=true):∀r∈c.2.2,lateR c r=false:=fun r hr=>by
 rw[←Bool.not_eq_true];exact fun q=>h (late_any.2 ⟨r,hr,q⟩)
def bR (k:Nat) (x:Int) (rest:List Int):List Int:=List.replicate k 0++x::rest
def aR (k:Nat) (rest:List Int):List Int:=List.replicate k 0++rest
theorem aR_zero (rest:List Int):aR 0 rest=rest:=rfl
theorem aR_len (k:Nat) (rest:List Int):(aR k rest).length=k+rest.length:=by unfold aR;rw[List.length_append,List.length_replicate]
theorem bR_len (k:Nat) (x:Int) (rest:List Int):(bR k x rest).length=k+1+rest.length:=by unfold bR;rw[List.length_append,List.length_replicate,List.length_cons];omega
theorem aR_set (k:Nat) (x:Int) (rest:List Int):(aR (k+1) rest).set k x=bR k x rest:=by
 unfold aR bR;rw[show k+1=k+1 from rfl,List.replicate_succ',List.append_assoc,List.set_append_right _ _ (by rw[List.length_replicate];exact Nat.le_refl _)];simp
theorem bR_set (k:Nat) (x y:Int) (rest:List Int):(bR k x rest).set k y=bR k y rest:=by
 unfold bR;rw[List.set_append_right _ _ (by rw[List.length_replicate];exact Nat.le_refl _)];simp
theorem bR_at (k:Nat) (x:Int) (rest:List Int):(bR k x rest).getD k 0=x:=by
 unfold bR;simp[List.getD]
theorem bR_rest (k i:Nat) (x:Int) (rest:List Int):(bR k x rest).getD (k+1+i) 0=rest.getD i 0:=by
 unfold bR;simp only[List.getD];rw[List.getElem?_append_right (by rw[List.length_replicate];omega),List.length_replicate,show k+1+i-k=i+1 by omega,List.getElem?_cons_succ]
theorem aR_bR (k:Nat) (x:Int) (rest:List Int):aR k (x::rest)=bR k x rest:=rfl
theorem gs_step (c:DChain) {k:Nat} (hk:k<c.1.length):gsF c (c.1.length-k)=gkF c k (gsF c (c.1.length-(k+1)))::gsF c (c.1.length-(k+1)):=by
 have e:c.1.length-k=(c.1.length-(k+1))+1:=by omega
 have e2:c.1.length-1-(c.1.length-(k+1))=k:=by omega
 rw[e];show gkF c (c.1.length-1-(c.1.length-(k+1))) _::_=_;rw[e2]
end Go.Proofs.YtpocfbfmjippnaaGreat
end
section
namespace Go.Proofs.YtpocfbfmjippnaaGreat
theorem RightS.nodup {ss:List DStop} {rs:List DReq} (h:RightS ss rs):ss.Nodup:=by
 rw[List.nodup_iff_pairwise_ne,List.pairwise_iff_getElem];intro i j hi hj hij e;have:=h.inj hi hj (by rw[getD_get hi,getD_get hj];exact e);omega
end Go.Proofs.YtpocfbfmjippnaaGreat
end
section
namespace Go.Proofs.YtpocfbfmjippnaaGreat
open Go.RowKit
namespace T
inductive Ty
 |bool|int (k:IntKind)|str|sl (t:Ty)|ptr (t:Ty)|st (t:Ty)|nil|cons (a b:Ty)|fn (a r:Ty)|fn2 (a b r:Ty)|mp (k:IntKind) (t:Ty)
 deriving DecidableEq
@[reducible] def Ty.den:Ty→Type
 | .bool=>Bool
 | .int _=>Int
 | .str=>ByteArray
 | .sl t=>List t.den
 | .ptr t=>t.den
 | .st t=>t.den
 | .nil=>Unit
 | .cons a b=>a.den×b.den
 | .fn a r=>a.den→r.den
 | .fn2 a b r=>a.den→b.den→r.den
 | .mp _ t=>List (Int×t.den)
def Ty.size:Ty→Nat
 | .st t=>t.size
 | .nil=>0
 | .cons a b=>a.size+b.size
 |_=>1
def Ty.isSt:Ty→Bool
 | .st _=>true
 |_=>false
def Ty.shape (t:Ty) (v:Value):Prop:=(∃cs,v= .agg cs)↔t.isSt=true
def CellsAt (w:World) (b off:Nat) (cs:List Value):Prop:=∀j v,cs[j]?=some v→w.cell? ⟨b,off+j,none⟩=some v
def RowsBy {α:Type} (R:α→List Value→Prop):List α→List Value→Prop
 |[],cs=>cs=[]
 |x::xs,cs=>∃c r,cs=c++r∧R x c∧RowsBy R xs r
structure Later (w:World) (M:Nat→Prop) (w1:World) (M1:Nat→Prop):Prop where
 size:w.heap.size≤w1.heap.size
 same:∀b,b<w.heap.size→¬M b→w1.heap[b]?=w.heap[b]?
 sub:∀b,b<w.heap.size→M1 b→M b
 bound:∀b,M1 b→b<w1.heap.size
variable (P:Program)
def funcOk (f:FuncId):Bool:=match P.funcs[f]? with
 |some fn=>fn.name != "runtime.NumGoroutine" &&fn.body.isSome
 |none=>false
def mval:(t:Ty)→t.den→Value
 | .bool,d=>.bool d
 | .int k,d=>.int k d
 | .str,d=>.string d
 |_,_=>undef
def mOk:(t:Ty)→t.den→Prop
 | .bool,_=>True
 | .int k,d=>k.min≤d∧d≤k.max
 | .str,d=>d.size≤maxLen
 |_,_=>False
def Rd:(t:Ty)→World→(Nat→Prop)→t.den→List Value→Prop
 | .bool,_,_,d,cs=>cs=[.bool d]
 | .int k,_,_,d,cs=>cs=[.int k d]∧k.min≤d∧d≤k.max
 | .str,_,_,d,cs=>cs=[.string d]∧d.size≤maxLen
 | .sl t,w,M,d,cs=>∃A n c,cs=[.slice A n c]∧d.length=n∧n≤c∧c≤maxLen∧
   (n=0∨∃b off cc,A=some ⟨b,off,none⟩∧b<w.heap.size∧¬M b∧CellsAt w b off cc∧RowsBy (fun x c=>Rd t w M x c) d cc)
 | .ptr t,w,M,d,cs=>∃b off cc,cs=[.pointer (some ⟨b,off,none⟩)]∧b<w.heap.size∧¬M b∧CellsAt w b off cc∧Rd t w M d cc
 | .st t,w,M,d,cs=>Rd t w M d cs
 | .nil,_,_,_,cs=>cs=[]
 | .cons a b,w,M,d,cs=>∃c1 c2,cs=c1++c2∧Rd a w M d.1 c1∧Rd b w M d.2 c2
 | .fn a r,w,M,F,cs=>∃f cap,cs=[.func (.func f) #[] cap]∧funcOk P f=true∧∀w1 M1,Later w M w1 M1→∀x v,a.shape v→Rd a w1 M1 x v.cells.toList→
   Calls P f (#[v]++cap) w1 fun e w2=>∃u,e= .returned u∧r.shape u∧Rd r w2 M1 (F x) u.cells.toList∧Below w1.heap.size w1 w2
 | .fn2 a b r,w,M,F,cs=>∃f cap,cs=[.func (.func f) #[] cap]∧funcOk P f=true∧∀w1 M1,Later w M w1 M1→∀x v y u,a.shape v→Rd a w1 M1 x v.cells.toList→b.shape u→Rd b w1 M1 y u.cells.toList→
   Calls P f (#[v,u]++cap) w1 fun e w2=>∃u,e= .returned u∧r.shape u∧Rd r w2 M1 (F x y) u.cells.toList∧Below w1.heap.size w1 w2
 | .mp k t,w,M,d,cs=>∃b es clock,cs=[.map (some b)]∧b<w.heap.size∧¬M b∧w.heap[b]?=some (.map es clock)∧Go.MapKept.Stamped es clock∧es.toList.map (fun x=>(x.key,x.val))=d.map (fun p=>(Value.int k p.1,mval t p.2))∧∀p∈d,(k.min≤p.1∧p.1≤k.max)∧mOk t p.2
section
variable {P}
theorem CellsAt.later {w w1:World} {b off:Nat} {cs:List Value} (h:CellsAt w b off cs) (e:w1.heap[b]?=w.heap[b]?):CellsAt w1 b off cs:=fun j v hj=>by
 rw[World.cell?_of_block (w:=w) (a:=⟨b,off+j,none⟩) e];exact h j v hj
theorem CellsAt.left {w:World} {b off:Nat} {c1 c2:List Value} (h:CellsAt w b off (c1++c2)):CellsAt w b off c1:=fun j v hj=>
 h j v (by rw[List.getElem?_append_left (List.getElem?_eq_some_iff.1 hj).1];exact hj)
theorem CellsAt.right {w:World} {b off:Nat} {c1 c2:List Value} (h:CellsAt w b off (c1++c2)):CellsAt w b (off+c1.length) c2:=fun j v hj=>by
 have:=h (c1.length+j) v (by rw[List.getElem?_append_right (by omega)];simpa using hj);rwa [Nat.add_assoc]
theorem CellsAt.append {w:World} {b off:Nat} {c1 c2:List Value} (h:CellsAt w b off c1) (h':CellsAt w b (off+c1.length) c2):CellsAt w b off (c1++c2):=fun j v hj=>by
 by_cases c:j<c1.length
 ·exact h j v (by rwa [List.getElem?_append_left c] at hj)
 ·have:=h' (j-c1.length) v (by rwa [List.getElem?_append_right (by omega)] at hj);rwa [show off+c1.length+(j-c1.length)=off+j by omega] at this
theorem RowsBy.mono {α:Type} {R R':α→List Value→Prop}:∀{xs:List α} {cs:List Value},RowsBy R xs cs→(∀x∈xs,∀c,R x c→R' x c)→RowsBy R' xs cs
 |[],_,h,_=>h
 |x::xs,_,⟨c,r,e,h1,h2⟩,hm=>⟨c,r,e,hm x (by simp) c h1,h2.mono fun y hy=>hm y (by simp[hy])⟩
theorem RowsBy.append {α:Type} {R:α→List Value→Prop}:∀{xs ys:List α} {c1 c2:List Value},RowsBy R xs c1→RowsBy R ys c2→RowsBy R (xs++ys) (c1++c2)
 |[],_,_,_,h,h'=>by obtain rfl:_=[]:=h;exact h'
 |x::xs,_,_,_,⟨c,r,e,h1,h2⟩,h'=>⟨c,r++_,by rw[e,List.append_assoc],h1,h2.append h'⟩
theorem RowsBy.split {α:Type} {R:α→List Value→Prop}:∀{xs ys:List α} {cs:List Value},RowsBy R (xs++ys) cs→∃c1 c2,cs=c1++c2∧RowsBy R xs c1∧RowsBy R ys c2
 |[],_,cs,h=>⟨[],cs,rfl,rfl,h⟩
 |x::xs,_,_,⟨c,r,e,h1,h2⟩=>by
  obtain ⟨c1,c2,e',h3,h4⟩:=RowsBy.split h2;exact ⟨c++c1,c2,by rw[e,e',List.append_assoc],⟨c,c1,rfl,h1,h3⟩,h4⟩
theorem RowsBy.len {α:Type} {R:α→List Value→Prop} {n:Nat} (hR:∀x c,R x c→c.length=n):∀{xs:List α} {cs:List Value},RowsBy R xs cs→cs.length=xs.length*n
 |[],_,h=>by obtain rfl:_=[]:=h;simp
 |x::xs,_,⟨c,r,e,h1,h2⟩=>by
  rw[e,List.length_append,hR _ _ h1,RowsBy.len hR h2,List.length_cons,Nat.add_mul];omega
theorem RowsBy.at {α:Type} {R:α→List Value→Prop} {xs:List α} {cs:List Value} (h:RowsBy R xs cs) {i:Nat} (hi:i<xs.length):
  ∃c1 c c2,cs=c1++c++c2∧RowsBy R (xs.take i) c1∧R xs[i] c∧RowsBy R (xs.drop (i+1)) c2:=by
 have e:xs=xs.take i++xs[i]::xs.drop (i+1):=by simp
 rw[e] at h
 obtain ⟨c1,c2,rfl,h1,c,r,rfl,h2,h3⟩:=h.split
 refine ⟨c1,c,r,by simp,h1,?_,h3⟩
 simpa using h2
theorem Later.refl {w:World} {M:Nat→Prop} (h:∀b,M b→b<w.heap.size):Later w M w M:=⟨Nat.le_refl _,fun _ _ _=>rfl,fun _ _ h=>h,h⟩
theorem Later.trans {w w1 w2:World} {M M1 M2:Nat→Prop} (h:Later w M w1 M1) (k:Later w1 M1 w2 M2):Later w M w2 M2:=
 ⟨Nat.le_trans h.size k.size,fun b hb hm=>by
  rw[k.same b (Nat.lt_of_lt_of_le hb h.size) (fun q=>hm (h.sub b hb q)),h.same b hb hm],fun b hb q=>h.sub b hb (k.sub b (Nat.lt_of_lt_of_le hb h.size) q),k.bound⟩
theorem Later.below {w w1:World} {M:Nat→Prop} (h:Below w.heap.size w w1) (hM:∀b,M b→b<w.heap.size):Later w M w1 M:=
 ⟨h.size,fun b hb _=>h.block b hb,fun _ _ q=>q,fun b q=>Nat.lt_of_lt_of_le (hM b q) h.size⟩
theorem Rd.later {w w1:World} {M M1:Nat→Prop} (h:Later w M w1 M1):∀{t:Ty} {d:t.den} {cs:List Value},Rd P t w M d cs→Rd P t w1 M1 d cs
 | .bool,_,_,q=>q
 | .int _,_,_,q=>q
 | .str,_,_,q=>q
 | .nil,_,_,q=>q
 | .st t,d,_,q=>Rd.later (t:=t) h q
 | .cons a b,d,_,⟨c1,c2,e,q1,q2⟩=>⟨c1,c2,e,Rd.later (t:=a) h q1,Rd.later (t:=b) h q2⟩
 | .sl t,d,_,⟨A,n,c,e,h1,h2,h3,h4⟩=>by
  refine ⟨A,n,c,e,h1,h2,h3,?_⟩;rcases h4 with h4|⟨b,off,cc,e',hb,hm,hc,hr⟩
  ·exact .inl h4
  ·exact .inr ⟨b,off,cc,e',Nat.lt_of_lt_of_le hb h.size,fun q=>hm (h.sub b hb q),hc.later (h.same b hb hm),hr.mono fun x _ c q=>Rd.later (t:=t) h q⟩
 | .ptr t,d,_,⟨b,off,cc,e',hb,hm,hc,hr⟩=>⟨b,off,cc,e',Nat.lt_of_lt_of_le hb h.size,fun q=>hm (h.sub b hb q),hc.later (h.same b hb hm),Rd.later (t:=t) h hr⟩
 | .fn a r,d,_,⟨f,cap,e,q0,q⟩=>⟨f,cap,e,q0,fun w2 M2 k=>q w2 M2 (h.trans k)⟩
 | .fn2 a b r,d,_,⟨f,cap,e,q0,q⟩=>⟨f,cap,e,q0,fun w2 M2 k=>q w2 M2 (h.trans k)⟩
 | .mp _ _,d,_,⟨b,es,clock,e,hb,hm,hg,q⟩=>⟨b,es,clock,e,Nat.lt_of_lt_of_le hb h.size,fun q=>hm (h.sub b hb q),by rw[h.same b hb hm];exact hg,q⟩
theorem Rd.len {w:World} {M:Nat→Prop}:∀{t:Ty} {d:t.den} {cs:List Value},Rd P t w M d cs→cs.length=t.size
 | .bool,_,_,q=>by rw[show _=_ from q];rfl
 | .int _,_,_,q=>by rw[q.1];rfl
 | .str,_,_,q=>by rw[q.1];rfl
 | .nil,_,_,q=>by rw[show _=_ from q];rfl
 | .st t,d,_,q=>Rd.len (t:=t) q
 | .cons a b,d,_,⟨c1,c2,e,q1,q2⟩=>by rw[e,List.length_append,Rd.len (t:=a) q1,Rd.len (t:=b) q2];rfl
 | .sl t,d,_,⟨A,n,c,e,_⟩=>by rw[e];rfl
 | .ptr t,d,_,⟨b,off,cc,e',_⟩=>by rw[e'];rfl
 | .fn a r,d,_,⟨f,cap,e,q⟩=>by rw[e];rfl
 | .fn2 a b r,d,_,⟨f,cap,e,q⟩=>by rw[e];rfl
 | .mp _ _,d,_,⟨b,es,clock,e,q⟩=>by rw[e];rfl
theorem Rd.one {w:World} {M:Nat→Prop}:∀{t:Ty} {d:t.den} {cs:List Value},Rd P t w M d cs→∀u∈cs,u.oneCell'=true
 | .bool,_,_,q=>by rw[show _=_ from q];intro u hu;simp at hu;subst hu;rfl
 | .int _,_,_,q=>by rw[q.1];intro u hu;simp at hu;subst hu;rfl
 | .str,_,_,q=>by rw[q.1];intro u hu;simp at hu;subst hu;rfl
 | .nil,_,_,q=>by rw[show _=_ from q];intro u hu;simp at hu
 | .st t,d,_,q=>Rd.one (t:=t) q
 | .cons a b,d,_,⟨c1,c2,e,q1,q2⟩=>by
  rw[e];intro u hu;rcases List.mem_append.1 hu with hu|hu
  ·exact Rd.one (t:=a) q1 u hu
  ·exact Rd.one (t:=b) q2 u hu
 | .sl t,d,_,⟨A,n,c,e,_⟩=>by rw[e];intro u hu;simp at hu;subst hu;rfl
 | .ptr t,d,_,⟨b,off,cc,e',_⟩=>by rw[e'];intro u hu;simp at hu;subst hu;rfl
 | .fn a r,d,_,⟨f,cap,e,q⟩=>by rw[e];intro u hu;simp at hu;subst hu;rfl
 | .fn2 a b r,d,_,⟨f,cap,e,q⟩=>by rw[e];intro u hu;simp at hu;subst hu;rfl
 | .mp _ _,d,_,⟨b,es,clock,e,q⟩=>by rw[e];intro u hu;simp at hu;subst hu;rfl
end
def RdV (t:Ty) (w:World) (M:Nat→Prop) (d:t.den) (v:Value):Prop:=t.shape v∧Rd P t w M d v.cells.toList
variable {P}
theorem RdV.later {w w1:World} {M M1:Nat→Prop} (h:Later w M w1 M1) {t:Ty} {d:t.den} {v:Value} (q:RdV P t w M d v):RdV P t w1 M1 d v:=⟨q.1,q.2.later h⟩
end T
end Go.Proofs.YtpocfbfmjippnaaGreat
end
section
namespace Go.Proofs.YtpocfbfmjippnaaGreat
open Go.RowKit
namespace T
inductive AV
 |top
 |val (t:Ty) (d:t.den)
 |cst (v:Value)
 |agg (cs:List AV)
 |own (l:Nat)
 |ptr (l o:Nat)
 |eptr (l i o:Nat)
 |tup (vs:List AV)
 |clo (f:FuncId) (cap:List AV)
 |whn (c:Bool) (v:AV)
 |ub (p q:Prop)
 |frz (o:Obj)
 |bnd (f:FuncId) (vs:List AV)
 |yl (l:Nat) (ks:List Nat) (vs:List AV)
 |sub (l lo hi:Nat)
 |arr (l n:Nat)
 |nnl
inductive OB
 |box (T:TypeId) (cs:List AV)
 |row (e:TypeId) (t:Ty) (xs:List t.den)
 |mp (k:IntKind) (t:Ty) (xs:List (Int×t.den))
 |lp (busy:Bool) (r:Loop)
 |it (k:IntKind) (t:Ty) (left:List (Int×t.den)) (cur:Option (Int×t.den))
mutual
def AV.locs:AV→List Nat
 | .agg cs=>AV.locsL cs
 | .own l=>[l]
 | .ptr l _=>[l]
 | .eptr l _ _=>[l]
 | .tup vs=>AV.locsL vs
 | .clo _ cap=>AV.locsL cap
 | .bnd _ vs=>AV.locsL vs
 | .yl l _ vs=>l::AV.locsL vs
 | .sub l _ _=>[l]
 | .arr l _=>[l]
 | .whn _ v=>v.locs
 |_=>[]
def AV.locsL:List AV→List Nat
 |[]=>[]
 |a::r=>a.locs++AV.locsL r
end
def OB.locs:OB→List Nat
 | .box _ cs=>AV.locsL cs
 | .row ..=>[]
 | .mp ..=>[]
 | .lp ..=>[]
 | .it ..=>[]
def blk:Value→Option Nat
 | .pointer (some a)=>some a.block
 | .slice (some a) _ _=>some a.block
 | .map (some b)=>some b
 |_=>none
abbrev Hp:=Nat→Option OB
def Mu (M:Nat→Prop) (hp:Hp) (ψ:Nat→Value):Nat→Prop:=fun b=>M b∨∃l ob,hp l=some ob∧blk (ψ l)=some b
def OB.like:OB→OB→Prop
 | .box _ _,.box _ _=>True
 | .row _ t _,.row _ t' _=>t=t'
 | .mp k t _,.mp k' t' _=>k=k'∧t=t'
 | .lp _ r,.lp _ r'=>r'=r
 | .it k t _ _,.it k' t' _ _=>k=k'∧t=t'
 |_,_=>False
variable (P:Program)
mutual
def AVR (hp:Hp) (ψ:Nat→Value) (w:World) (M:Nat→Prop):AV→Value→Prop
 | .top,_=>True
 | .val t d,v=>RdV P t w M d v
 | .cst u,v=>v=u
 | .agg cs,v=>∃us,v= .agg us∧AVRs hp ψ w M cs us.toList∧∀u∈us.toList,u.oneCell'=true
 | .own l,v=>∀ob,hp l=some ob→v=ψ l
 | .ptr l o,v=>∀ob,hp l=some ob→∃b,ψ l= .pointer (some ⟨b,0,none⟩)∧v= .pointer (some ⟨b,o,none⟩)
 | .eptr l i o,v=>∀e t xs,hp l=some (.row e t xs)→∃g n c,ψ l= .slice (some ⟨g,0,none⟩) n c∧v= .pointer (some ⟨g,i*t.size+o,none⟩)
 | .tup vs,v=>∃us,v= .tuple us∧AVRs hp ψ w M vs us.toList
 | .clo f cap,v=>∃us,v= .func (.func f) #[] us∧AVRs hp ψ w M cap us.toList
 | .whn c a,v=>(c=true→AVR hp ψ w M a v)∧(c=false→v=undef)
 | .ub p q,v=>∃b,v= .bool b∧(b=true→p)∧(b=false→q)
 | .frz o,v=>∃b,v= .pointer (some ⟨b,0,none⟩)∧b<w.heap.size∧¬M b∧w.heap[b]?=some o
 | .sub l lo hi,v=>∀e t xs,hp l=some (.row e t xs)→lo≤hi∧∃A n c,ψ l= .slice A n c∧hi≤n∧v=sliced A lo hi c t.size
 | .bnd f vs,v=>∃us,v= .func (.func f) us #[]∧AVRs hp ψ w M vs us.toList
 | .arr l n,v=>∀ob,hp l=some ob→∃b c,ψ l= .pointer (some ⟨b,0,none⟩)∧v= .slice (some ⟨b,0,none⟩) n c∧n≤c∧c≤maxLen
 | .nnl,v=>∃A,v= .slice (some A) 0 0
 | .yl l ks vs,v=>∃T:Array Value,AVRs hp ψ w M vs (ks.map fun k=>T.getD k undef)∧∀bs r,hp l=some (.lp bs r)→∃b,ψ l= .pointer (some ⟨b,0,none⟩)∧v= .func (.yield b) #[] #[]∧r.tmps=T
def AVRs (hp:Hp) (ψ:Nat→Value) (w:World) (M:Nat→Prop):List AV→List Value→Prop
 |[],us=>us=[]
 |a::r,us=>∃v vs,us=v::vs∧AVR hp ψ w M a v∧AVRs hp ψ w M r vs
end
def ItAt (w:World) (M:Nat→Prop) (k:IntKind) (t:Ty) (b:Nat) (left:List (Int×t.den)) (cur:Option (Int×t.den)):Prop:=
 ∃bm since seen c0 es clock,w.heap[b]?=some (.mapIter (some bm) since seen c0)∧bm<w.heap.size∧¬M bm∧w.heap[bm]?=some (.map es clock)∧Go.MapKept.Stamped es clock∧(∀x∈es.toList,x.born<since)∧since≤c0∧since≤clock∧
  (leftOf es seen).toList.map (fun x=>(x.key,x.val))=left.map (fun p=>(Value.int k p.1,mval t p.2))∧(∀p∈left,(k.min≤p.1∧p.1≤k.max)∧mOk t p.2)∧
  ∀p,cur=some p→((k.min≤p.1∧p.1≤k.max)∧mOk t p.2)∧∃(seen':Array Nat) (e:MapEntry),seen=seen'.push e.born∧c0=clock∧e∈es.toList∧e.key= .int k p.1∧e.val=mval t p.2
theorem ItAt.later {w w1:World} {M M1:Nat→Prop} (h:Later w M w1 M1) {k:IntKind} {t:Ty} {b:Nat} {left:List (Int×t.den)} {cur:Option (Int×t.den)} (hb:w1.heap[b]?=w.heap[b]?) (q:ItAt w M k t b left cur):ItAt w1 M1 k t b left cur:=by
 obtain ⟨bm,since,seen,c0,es,clock,h1,h2,h3,h4,q⟩:=q;exact ⟨bm,since,seen,c0,es,clock,by rw[hb];exact h1,Nat.lt_of_lt_of_le h2 h.size,fun z=>h3 (h.sub bm h2 z),by rw[h.same bm h2 h3];exact h4,q⟩
def Loop.at (busy:Bool) (r:Loop):Loop:={ r with state:=if busy then .busy else .ready,pending:=none }
def OBR (B:Nat) (hp:Hp) (ψ:Nat→Value) (w:World) (M:Nat→Prop) (l:Nat):OB→Prop
 | .box T cs=>∃b cells,ψ l= .pointer (some ⟨b,0,none⟩)∧B≤b∧w.heap[b]?=some (.cells cells T (0,0))∧AVRs P hp ψ w M cs cells.toList∧(∀u∈cells.toList,u.oneCell'=true)
 | .row e t xs=>∃cells,w.ownsRow B e t.size (ψ l) xs.length cells∧RowsBy (fun x c=>Rd P t w M x c) xs cells
 | .mp k t xs=>∃b es clock,ψ l= .map (some b)∧B≤b∧w.heap[b]?=some (.map es clock)∧Go.MapKept.Stamped es clock∧es.toList.map (fun x=>(x.key,x.val))=xs.map (fun p=>(Value.int k p.1,mval t p.2))∧∀p∈xs,(k.min≤p.1∧p.1≤k.max)∧mOk t p.2
 | .lp bs r=>∃b,ψ l= .pointer (some ⟨b,0,none⟩)∧B≤b∧w.heap[b]?=some (.loop (Loop.at bs r))
 | .it k t left cur=>∃b,ψ l= .pointer (some ⟨b,0,none⟩)∧B≤b∧ItAt w M k t b left cur
structure HOK (B:Nat) (M:Nat→Prop) (hp:Hp) (ψ:Nat→Value) (w:World):Prop where
 ob:∀l ob,hp l=some ob→OBR P B hp ψ w (Mu M hp ψ) l ob
 dj:∀l l' ob ob' b,hp l=some ob→hp l'=some ob'→blk (ψ l)=some b→blk (ψ l')=some b→l=l'
 mb:∀b,M b→b<w.heap.size
 md:∀l ob b,hp l=some ob→blk (ψ l)=some b→¬M b
 bz:B≤w.heap.size
section
variable {P} {B:Nat} {M:Nat→Prop} {hp hp':Hp} {ψ ψ':Nat→Value} {w w':World}
theorem ownsRow_blk {e:TypeId} {s:Nat} {v:Value} {n b:Nat} {xs:List Value} (h:w.ownsRow B e s v n xs) (hb:blk v=some b):B≤b∧b<w.heap.size:=by
 rcases h.2 with ⟨rfl,_⟩|⟨g,cap,cur,rfl,hB,hg,_⟩
 ·simp[blk] at hb
 ·simp only[blk,Option.some.injEq] at hb;subst hb;exact ⟨hB,lt_of_block hg⟩
theorem OBR.bk {M':Nat→Prop} {l:Nat} {o:OB} (h:OBR P B hp ψ w M' l o) {b:Nat} (hb:blk (ψ l)=some b):B≤b∧b<w.heap.size:=by
 cases o with
 |box T cs=>
  obtain ⟨b',cells,e,hB,hg,_⟩:=h;rw[e] at hb;simp only[blk,Option.some.injEq] at hb;subst hb;exact ⟨hB,lt_of_block hg⟩
 |row e t xs=>
  obtain ⟨cells,h,_⟩:=h;exact ownsRow_blk h hb
 |mp k t xs=>
  obtain ⟨b',es,clock,e,hB,hg,_⟩:=h;rw[e] at hb;simp only[blk,Option.some.injEq] at hb;subst hb;exact ⟨hB,lt_of_block hg⟩
 |lp bs r=>
  obtain ⟨b',e,hB,hg⟩:=h;rw[e] at hb;simp only[blk,Option.some.injEq] at hb;subst hb;exact ⟨hB,lt_of_block hg⟩
 |it k t left cur=>
  obtain ⟨b',e,hB,_,_,_,_,_,_,hg,_⟩:=h;rw[e] at hb;simp only[blk,Option.some.injEq] at hb;subst hb;exact ⟨hB,lt_of_block hg⟩
theorem HOK.mu (h:HOK P B M hp ψ w):∀b,Mu M hp ψ b→b<w.heap.size:=by
 rintro b (q|⟨l,ob,h1,h2⟩)
 ·exact h.mb b q
 ·exact ((h.ob l ob h1).bk h2).2
mutual
theorem AVR.later {Mw Mw':Nat→Prop} {fr:Nat} (hl:Later w Mw w' Mw') (hψ:∀l,l≠fr→ψ' l=ψ l) (hk:∀l ob',l≠fr→hp' l=some ob'→∃ob,hp l=some ob∧ob.like ob'):
  ∀{av:AV} {v:Value},fr∉av.locs→AVR P hp ψ w Mw av v→AVR P hp' ψ' w' Mw' av v
 | .top,_,_,_=>trivial
 | .val t d,_,_,q=>RdV.later hl q
 | .cst u,_,_,q=>q
 | .agg cs,_,hf,⟨us,e,q,q1⟩=>⟨us,e,AVRs.later hl hψ hk (by simpa [AV.locs] using hf) q,q1⟩
 | .own l,_,hf,q=>fun ob h=>by
  simp only[AV.locs,List.mem_singleton] at hf;obtain ⟨ob0,h0,_⟩:=hk l ob (Ne.symm hf) h;rw[hψ l (Ne.symm hf)];exact q ob0 h0
 | .ptr l o,_,hf,q=>fun ob h=>by
  simp only[AV.locs,List.mem_singleton] at hf;obtain ⟨ob0,h0,_⟩:=hk l ob (Ne.symm hf) h;rw[hψ l (Ne.symm hf)];exact q ob0 h0
 | .eptr l i o,_,hf,q=>fun e t xs h=>by
  simp only[AV.locs,List.mem_singleton] at hf;obtain ⟨ob0,h0,h1⟩:=hk l _ (Ne.symm hf) h;rw[hψ l (Ne.symm hf)];cases ob0 with
  |box _ _=>exact h1.elim
  |mp _ _ _=>exact h1.elim
  |lp _ _=>exact h1.elim
  |it _ _ _ _=>exact h1.elim
  |row e' t' xs'=>obtain rfl:t'=t:=h1;exact q e' t' xs' h0
 | .arr l n,_,hf,q=>fun ob h=>by
  simp only[AV.locs,List.mem_singleton] at hf;obtain ⟨ob0,h0,_⟩:=hk l ob (Ne.symm hf) h;rw[hψ l (Ne.symm hf)];exact q ob0 h0
 | .tup vs,_,hf,⟨us,e,q⟩=>⟨us,e,AVRs.later hl hψ hk (by simpa [AV.locs] using hf) q⟩
 | .clo f cap,_,hf,⟨us,e,q⟩=>⟨us,e,AVRs.later hl hψ hk (by simpa [AV.locs] using hf) q⟩
 | .ub _ _,_,_,q=>q
 | .nnl,_,_,q=>q
 | .frz o,_,_,⟨b,e,h1,h2,h3⟩=>⟨b,e,Nat.lt_of_lt_of_le h1 hl.size,fun q=>h2 (hl.sub b h1 q),by rw[hl.same b h1 h2];exact h3⟩
 | .sub l lo hi,_,hf,q=>fun e t xs h=>by
  simp only[AV.locs,List.mem_singleton] at hf;obtain ⟨ob0,h0,h1⟩:=hk l _ (Ne.symm hf) h;rw[hψ l (Ne.symm hf)];cases ob0 with
  |box _ _=>exact h1.elim
  |mp _ _ _=>exact h1.elim
  |lp _ _=>exact h1.elim
  |it _ _ _ _=>exact h1.elim
  |row e' t' xs'=>obtain rfl:t'=t:=h1;exact q e' t' xs' h0
 | .bnd f vs,_,hf,⟨us,e,q⟩=>⟨us,e,AVRs.later hl hψ hk (by simpa [AV.locs] using hf) q⟩
 | .yl l ks vs,_,hf,⟨T,q,q2⟩=>by
  simp only[AV.locs,List.mem_cons,not_or] at hf;refine ⟨T,AVRs.later hl hψ hk hf.2 q,fun bs r h=>?_⟩;obtain ⟨ob0,h0,h1⟩:=hk l _ (Ne.symm hf.1) h;rw[hψ l (Ne.symm hf.1)];cases ob0 with
  |box _ _=>exact h1.elim
  |mp _ _ _=>exact h1.elim
  |row _ _ _=>exact h1.elim
  |it _ _ _ _=>exact h1.elim
  |lp bs' r'=>
   obtain rfl:r=r':=h1;exact q2 bs' r h0
 | .whn c a,_,hf,q=>⟨fun h=>AVR.later hl hψ hk (by simpa [AV.locs] using hf) (q.1 h),q.2⟩
theorem AVRs.later {Mw Mw':Nat→Prop} {fr:Nat} (hl:Later w Mw w' Mw') (hψ:∀l,l≠fr→ψ' l=ψ l) (hk:∀l ob',l≠fr→hp' l=some ob'→∃ob,hp l=some ob∧ob.like ob'):
  ∀{r:List AV} {us:List Value},fr∉AV.locsL r→AVRs P hp ψ w Mw r us→AVRs P hp' ψ' w' Mw' r us
 |[],_,_,q=>q
 |a::r,_,hf,⟨v,vs,e,q1,q2⟩=>by
  simp only[AV.locsL,List.mem_append,not_or] at hf;exact ⟨v,vs,e,AVR.later hl hψ hk hf.1 q1,AVRs.later hl hψ hk hf.2 q2⟩
end
structure Turn (P:Program) (B:Nat) (M:Nat→Prop) (hp:Hp) (ψ:Nat→Value) (w:World) (tc:List Nat) (fr:Nat) (hp':Hp) (ψ':Nat→Value) (w':World):Prop where
 os:w'.os=w.os
 tape:w'.tape=w.tape
 output:w'.output=w.output
 size:w.heap.size≤w'.heap.size
 same:∀b,b<w.heap.size→(∀l∈tc,∀ob,hp l=some ob→blk (ψ l)≠some b)→w'.heap[b]?=w.heap[b]?
 psi:∀l,l≠fr→ψ' l=ψ l
 new:hp fr=none
 rest:∀l,l∉tc→l≠fr→hp' l=hp l
 kind:∀l ob',l≠fr→hp' l=some ob'→∃ob,hp l=some ob∧ob.like ob'
 lies:∀l ob b,(l∈tc∨l=fr)→hp' l=some ob→blk (ψ' l)=some b→(w.heap.size≤b∧b<w'.heap.size)∨∃l0∈tc,∃ob0,hp l0=some ob0∧blk (ψ l0)=some b
 one:∀l l' ob ob',(l∈tc∨l=fr)→(l'∈tc∨l'=fr)→hp' l=some ob→hp' l'=some ob'→l=l'
theorem Turn.later {tc:List Nat} {fr:Nat} (h:HOK P B M hp ψ w) (t:Turn P B M hp ψ w tc fr hp' ψ' w'):Later w (Mu M hp ψ) w' (Mu M hp' ψ'):=by
 have key:∀l ob b,hp' l=some ob→blk (ψ' l)=some b→(w.heap.size≤b∧b<w'.heap.size)∨Mu M hp ψ b:=fun l ob b h1 h2=>by
  by_cases c:l∈tc∨l=fr
  ·rcases t.lies l ob b c h1 h2 with q|⟨l0,_,ob0,q1,q2⟩
   ·exact .inl q
   ·exact .inr (.inr ⟨l0,ob0,q1,q2⟩)
  ·rw[not_or] at c;rw[t.rest l c.1 c.2] at h1;rw[t.psi l c.2] at h2;exact .inr (.inr ⟨l,ob,h1,h2⟩)
 refine ⟨t.size,fun b hb hm=>t.same b hb fun l _ ob h1 h2=>hm (.inr ⟨l,ob,h1,h2⟩),fun b hb q=>?_,fun b q=>?_⟩
 ·rcases q with q|⟨l,ob,h1,h2⟩
  ·exact .inl q
  ·rcases key l ob b h1 h2 with q|q
   ·omega
   ·exact q
 ·rcases q with q|⟨l,ob,h1,h2⟩
  ·exact Nat.lt_of_lt_of_le (h.mb b q) t.size
  ·rcases key l ob b h1 h2 with q|q
   ·exact q.2
   ·exact Nat.lt_of_lt_of_le (h.mu b q) t.size
theorem Turn.av {tc:List Nat} {fr:Nat} (h:HOK P B M hp ψ w) (t:Turn P B M hp ψ w tc fr hp' ψ' w') {av:AV} {v:Value} (hf:fr∉av.locs) (q:AVR P hp ψ w (Mu M hp ψ) av v):
  AVR P hp' ψ' w' (Mu M hp' ψ') av v:=AVR.later (t.later h) t.psi t.kind hf q
theorem Turn.avs {tc:List Nat} {fr:Nat} (h:HOK P B M hp ψ w) (t:Turn P B M hp ψ w tc fr hp' ψ' w') {r:List AV} {us:List Value} (hf:fr∉AV.locsL r) (q:AVRs P hp ψ w (Mu M hp ψ) r us):
  AVRs P hp' ψ' w' (Mu M hp' ψ') r us:=AVRs.later (t.later h) t.psi t.kind hf q
theorem ownsRow_same {e:TypeId} {s:Nat} {v:Value} {n:Nat} {xs:List Value} (h:w.ownsRow B e s v n xs) (q:∀b,blk v=some b→w'.heap[b]?=w.heap[b]?):w'.ownsRow B e s v n xs:=by
 obtain ⟨h1,h2⟩:=h;refine ⟨h1,?_⟩;rcases h2 with h2|⟨g,cap,cur,e,hB,hg,r⟩
 ·exact .inl h2
 ·exact .inr ⟨g,cap,cur,e,hB,by rw[q g (by rw[e];rfl)];exact hg,r⟩
theorem Turn.hok {tc:List Nat} {fr:Nat} (h:HOK P B M hp ψ w) (t:Turn P B M hp ψ w tc fr hp' ψ' w') (hm:∀l ob,hp l=some ob→fr∉ob.locs)
  (hT:∀l ob,(l∈tc∨l=fr)→hp' l=some ob→OBR P B hp' ψ' w' (Mu M hp' ψ') l ob):HOK P B M hp' ψ' w':=by
 refine ⟨fun l ob hl=>?_,fun l l' ob ob' b h1 h2 h3 h4=>?_,fun b q=>Nat.lt_of_lt_of_le (h.mb b q) t.size,fun l ob b h1 h2 q=>?_,Nat.le_trans h.bz t.size⟩
 rotate_right
 ·by_cases c:l∈tc∨l=fr
  ·rcases t.lies l ob b c h1 h2 with q1|⟨l0,_,ob0,q1,q2⟩
   ·have:=h.mb b q;omega
   ·exact h.md l0 ob0 b q1 q2 q
  ·rw[not_or] at c
   rw[t.rest l c.1 c.2] at h1
   rw[t.psi l c.2] at h2
   exact h.md l ob b h1 h2 q
 ·by_cases c:l∈tc∨l=fr
  ·exact hT l ob c hl
  ·rw[not_or] at c
   have hl0:=hl
   rw[t.rest l c.1 c.2] at hl0
   have h0:=h.ob l ob hl0
   have hs:∀b,blk (ψ l)=some b→w'.heap[b]?=w.heap[b]?:=fun b hb=>t.same b (h0.bk hb).2 fun l1 h1 ob1 h2 h3=>c.1 (by rw[h.dj l l1 ob ob1 b hl0 h2 hb h3];exact h1)
   cases ob with
   |box T cs=>
    obtain ⟨b,cells,e,hB,hg,q,q1⟩:=h0
    refine ⟨b,cells,by rw[t.psi l c.2];exact e,hB,by rw[hs b (by rw[e];rfl)];exact hg,t.avs h (hm l _ hl0) q,q1⟩
   |row e ty xs=>
    obtain ⟨cells,h1,h2⟩:=h0
    refine ⟨cells,?_,h2.mono fun x _ c q=>q.later (t.later h)⟩
    rw[t.psi l c.2]
    exact ownsRow_same h1 hs
   |mp k ty xs=>
    obtain ⟨b,es,clock,e,hB,hg,q⟩:=h0
    exact ⟨b,es,clock,by rw[t.psi l c.2];exact e,hB,by rw[hs b (by rw[e];rfl)];exact hg,q⟩
   |lp bs r=>
    obtain ⟨b,e,hB,hg⟩:=h0
    exact ⟨b,by rw[t.psi l c.2];exact e,hB,by rw[hs b (by rw[e];rfl)];exact hg⟩
   |it k ty left cur=>
    obtain ⟨b,e,hB,hg⟩:=h0
    exact ⟨b,by rw[t.psi l c.2];exact e,hB,hg.later (t.later h) (hs b (by rw[e];rfl))⟩
 ·by_cases c:l∈tc∨l=fr
  ·by_cases c':l'∈tc∨l'=fr
   ·exact t.one l l' ob ob' c c' h1 h2
   ·exfalso
    rw[not_or] at c'
    rw[t.rest l' c'.1 c'.2] at h2
    rw[t.psi l' c'.2] at h4
    have:=((h.ob l' ob' h2).bk h4).2
    rcases t.lies l ob b c h1 h3 with q|⟨l0,q0,ob0,q1,q2⟩
    ·omega
    ·exact c'.1 (by rw[h.dj l' l0 ob' ob0 b h2 q1 h4 q2];exact q0)
  ·rw[not_or] at c
   rw[t.rest l c.1 c.2] at h1
   rw[t.psi l c.2] at h3
   by_cases c':l'∈tc∨l'=fr
   ·exfalso
    have:=((h.ob l ob h1).bk h3).2
    rcases t.lies l' ob' b c' h2 h4 with q|⟨l0,q0,ob0,q1,q2⟩
    ·omega
    ·exact c.1 (by rw[h.dj l l0 ob ob0 b h1 q1 h3 q2];exact q0)
   ·rw[not_or] at c'
    rw[t.rest l' c'.1 c'.2] at h2
    rw[t.psi l' c'.2] at h4
    exact h.dj l l' ob ob' b h1 h2 h3 h4
theorem Turn.below {tc:List Nat} {fr:Nat} (h:HOK P B M hp ψ w) (t:Turn P B M hp ψ w tc fr hp' ψ' w'):Below B w w':=
 ⟨t.os,t.tape,t.output,t.size,fun b hb=>t.same b (Nat.lt_of_lt_of_le hb h.bz) fun l _ ob h1 h2=>by
  have:=((h.ob l ob h1).bk h2).1;omega⟩
structure Stay (B:Nat) (M:Nat→Prop) (w w':World):Prop where
 below:Below B w w'
 stay:∀b,M b→b<w.heap.size→w'.heap[b]?=w.heap[b]?
theorem Stay.refl {B:Nat} {M:Nat→Prop} {w:World}:Stay B M w w:=⟨Below.refl _ _,fun _ _ _=>rfl⟩
theorem Stay.trans {B:Nat} {M:Nat→Prop} {a b c:World} (h:Stay B M a b) (k:Stay B M b c):Stay B M a c:=⟨h.below.trans k.below,fun x hx hlt=>(k.stay x hx (Nat.lt_of_lt_of_le hlt h.below.size)).trans (h.stay x hx hlt)⟩
theorem Stay.fewer {B:Nat} {M M':Nat→Prop} {a b:World} (h:Stay B M a b) (k:∀x,M' x→M x):Stay B M' a b:=⟨h.below,fun x hx=>h.stay x (k x hx)⟩
theorem Stay.drew {B:Nat} {M:Nat→Prop} {a w:World} (h:Stay B M a w):Stay B M a w.drew:=⟨h.below.drew,h.stay⟩
theorem Stay.of {B:Nat} {M:Nat→Prop} {w w':World} (h:Below w.heap.size w w') (hB:B≤w.heap.size):Stay B M w w':=⟨h.mono hB,fun b _ hb=>h.block b hb⟩
theorem Turn.stay {tc:List Nat} {fr:Nat} (h:HOK P B M hp ψ w) (t:Turn P B M hp ψ w tc fr hp' ψ' w'):Stay B M w w':=
 ⟨t.below h,fun b hb hlt=>t.same b hlt fun l _ ob h1 h2=>h.md l ob b h1 h2 hb⟩
theorem Turn.quiet (hb:Below w.heap.size w w') {fr:Nat} (hn:hp fr=none):Turn P B M hp ψ w [] fr hp ψ w' where
 os:=hb.os
 tape:=hb.tape
 output:=hb.output
 size:=hb.size
 same:=fun b h _=>hb.block b h
 psi:=fun _ _=>rfl
 new:=hn
 rest:=fun _ _ _=>rfl
 kind:=fun l ob' _ h=>⟨ob',h,by cases ob'<;>simp[OB.like]⟩
 lies:=by
  intro l ob b c h1 _;rcases c with c|rfl
  ·cases c
  ·rw[hn] at h1;cases h1
 one:=by
  intro l l' ob ob' c c' h1 _;rcases c with c|rfl
  ·cases c
  ·rw[hn] at h1;cases h1
end
end T
end Go.Proofs.YtpocfbfmjippnaaGreat
end
section
namespace Go.Proofs.YtpocfbfmjippnaaGreat
open Go.RowKit
namespace T
def Ty.dflt:(t:Ty)→t.den
 | .bool=>false
 | .int _=>(0:Int)
 | .str=>ByteArray.empty
 | .sl _=>[]
 | .ptr t=>t.dflt
 | .st t=>t.dflt
 | .nil=>()
 | .cons a b=>(a.dflt,b.dflt)
 | .fn _ r=>fun _=>r.dflt
 | .fn2 _ _ r=>fun _ _=>r.dflt
 | .mp _ _=>[]
def cast? (t t':Ty) (d:t'.den):Option t.den:=if h:t'=t then some (cast (congrArg Ty.den h) d) else none
@[simp] theorem cast?_self (t:Ty) (d:t.den):cast? t t d=some d:=by simp[cast?]
theorem cast?_some {t t':Ty} {d:t'.den} {e:t.den} (h:cast? t t' d=some e):∃q:t'=t,q▸d=e:=by
 unfold cast? at h;split at h
 ·rename_i q;subst q;refine ⟨rfl,?_⟩;simpa using h
 ·cases h
def proj (ft:Ty):(t:Ty)→t.den→Nat→Option ft.den
 | .st t,d,off=>if off=0∧Ty.st t=ft then cast? ft (.st t) d else proj ft t d off
 | .cons a b,d,off=>if off<a.size then proj ft a d.1 off else proj ft b d.2 (off-a.size)
 | .nil,_,_=>none
 | .bool,d,off=>if off=0 then cast? ft .bool d else none
 | .int k,d,off=>if off=0 then cast? ft (.int k) d else none
 | .str,d,off=>if off=0 then cast? ft .str d else none
 | .sl t,d,off=>if off=0 then cast? ft (.sl t) d else none
 | .ptr t,d,off=>if off=0 then cast? ft (.ptr t) d else none
 | .fn a r,d,off=>if off=0 then cast? ft (.fn a r) d else none
 | .fn2 a b r,d,off=>if off=0 then cast? ft (.fn2 a b r) d else none
 | .mp k t,d,off=>if off=0 then cast? ft (.mp k t) d else none
def upd (ft:Ty) (e:ft.den):(t:Ty)→t.den→Nat→Option t.den
 | .st t,d,off=>if off=0∧Ty.st t=ft then cast? (.st t) ft e else upd ft e t d off
 | .cons a b,d,off=>if off<a.size then (upd ft e a d.1 off).map fun x=>(x,d.2) else (upd ft e b d.2 (off-a.size)).map fun y=>(d.1,y)
 | .nil,_,_=>none
 | .bool,_,off=>if off=0 then cast? .bool ft e else none
 | .int k,_,off=>if off=0 then cast? (.int k) ft e else none
 | .str,_,off=>if off=0 then cast? .str ft e else none
 | .sl t,_,off=>if off=0 then cast? (.sl t) ft e else none
 | .ptr t,_,off=>if off=0 then cast? (.ptr t) ft e else none
 | .fn a r,_,off=>if off=0 then cast? (.fn a r) ft e else none
 | .fn2 a b r,_,off=>if off=0 then cast? (.fn2 a b r) ft e else none
 | .mp k t,_,off=>if off=0 then cast? (.mp k t) ft e else none
def scatter:(t:Ty)→t.den→List AV
 | .st t,d=>scatter t d
 | .nil,_=>[]
 | .cons a b,d=>scatter a d.1++scatter b d.2
 | .bool,d=>[.val .bool d]
 | .int k,d=>[.val (.int k) d]
 | .str,d=>[.val .str d]
 | .sl t,d=>[.val (.sl t) d]
 | .ptr t,d=>[.val (.ptr t) d]
 | .fn a r,d=>[.val (.fn a r) d]
 | .fn2 a b r,d=>[.val (.fn2 a b r) d]
 | .mp k t,d=>[.val (.mp k t) d]
section
variable {P:Program} {w:World} {M:Nat→Prop}
theorem cast?_rd {t t':Ty} {d:t'.den} {e:t.den} (h:cast? t t' d=some e) {cs:List Value} (q:Rd P t' w M d cs):Rd P t w M e cs:=by
 obtain ⟨rfl,rfl⟩:=cast?_some h;exact q
theorem cast?_rdv {t t':Ty} {d:t'.den} {e:t.den} (h:cast? t t' d=some e) {v:Value} (q:RdV P t' w M d v):RdV P t w M e v:=by
 obtain ⟨rfl,rfl⟩:=cast?_some h;exact q
theorem cell0 {t t':Ty} {d:t'.den} {e:t.den} {off:Nat} (h:(if off=0 then cast? t t' d else none)=some e) {cs:List Value} (q:Rd P t' w M d cs):
  ∃c1 c c2,cs=c1++c++c2∧c1.length=off∧Rd P t w M e c:=by
 split at h
 ·rename_i h0;subst h0;exact ⟨[],cs,[],by simp,rfl,cast?_rd h q⟩
 ·cases h
theorem proj_rd {ft:Ty}:∀{t:Ty} {d:t.den} {off:Nat} {e:ft.den} {cs:List Value},Rd P t w M d cs→proj ft t d off=some e→∃c1 c c2,cs=c1++c++c2∧c1.length=off∧Rd P ft w M e c
 | .st t,d,off,e,cs,q,h=>by
  unfold proj at h;split at h
  ·rename_i h0;exact ⟨[],cs,[],by simp,h0.1.symm,cast?_rd h q⟩
  ·exact proj_rd (t:=t) q h
 | .cons a b,d,off,e,cs,⟨k1,k2,e0,q1,q2⟩,h=>by
  unfold proj at h;have hl:=q1.len;split at h
  ·obtain ⟨c1,c,c2,e1,h1,h2⟩:=proj_rd (t:=a) q1 h;exact ⟨c1,c,c2++k2,by rw[e0,e1];simp,h1,h2⟩
  ·obtain ⟨c1,c,c2,e1,h1,h2⟩:=proj_rd (t:=b) q2 h;exact ⟨k1++c1,c,c2,by rw[e0,e1];simp,by rw[List.length_append];omega,h2⟩
 | .nil,_,_,_,_,_,h=>by simp[proj] at h
 | .bool,_,_,_,_,q,h=>cell0 h q
 | .int _,_,_,_,_,q,h=>cell0 h q
 | .str,_,_,_,_,q,h=>cell0 h q
 | .sl _,_,_,_,_,q,h=>cell0 h q
 | .ptr _,_,_,_,_,q,h=>cell0 h q
 | .fn _ _,_,_,_,_,q,h=>cell0 h q
 | .fn2 _ _ _,_,_,_,_,q,h=>cell0 h q
 | .mp _ _,_,_,_,_,q,h=>cell0 h q
theorem upd0 {ft t:Ty} {d:t.den} {e:ft.den} {off:Nat} {d':t.den} (h:(if off=0 then cast? t ft e else none)=some d') {cs c:List Value} (q:Rd P t w M d cs) (qc:Rd P ft w M e c):
  ∃c1 c0 c2,cs=c1++c0++c2∧c1.length=off∧c0.length=c.length∧Rd P t w M d' (c1++c++c2):=by
 split at h
 ·rename_i h0
  have q':=cast?_rd h qc
  exact ⟨[],cs,[],by simp,h0.symm,by rw[q.len,q'.len],by simpa using q'⟩
 ·cases h
theorem upd_rd {ft:Ty} {e:ft.den} {c:List Value} (qc:Rd P ft w M e c):∀{t:Ty} {d:t.den} {off:Nat} {d':t.den} {cs:List Value},Rd P t w M d cs→upd ft e t d off=some d'→
  ∃c1 c0 c2,cs=c1++c0++c2∧c1.length=off∧c0.length=c.length∧Rd P t w M d' (c1++c++c2)
 | .st t,d,off,d',cs,q,h=>by
  unfold upd at h;split at h
  ·rename_i h0;have q':=cast?_rd h qc;exact ⟨[],cs,[],by simp,h0.1.symm,by rw[q.len,q'.len],by simpa using q'⟩
  ·exact upd_rd qc (t:=t) q h
 | .cons a b,d,off,d',cs,⟨k1,k2,e0,q1,q2⟩,h=>by
  unfold upd at h;have hl:=q1.len;split at h
  ·obtain ⟨x,hx,rfl⟩:=Option.map_eq_some_iff.1 h;obtain ⟨c1,c0,c2,e1,h1,h2,h3⟩:=upd_rd qc (t:=a) q1 hx;exact ⟨c1,c0,c2++k2,by rw[e0,e1];simp,h1,h2,_,k2,by simp,h3,q2⟩
  ·obtain ⟨x,hx,rfl⟩:=Option.map_eq_some_iff.1 h;obtain ⟨c1,c0,c2,e1,h1,h2,h3⟩:=upd_rd qc (t:=b) q2 hx;exact ⟨k1++c1,c0,c2,by rw[e0,e1];simp,by rw[List.length_append];omega,h2,k1,_,by simp,q1,h3⟩
 | .nil,_,_,_,_,_,h=>by simp[upd] at h
 | .bool,_,_,_,_,q,h=>upd0 h q qc
 | .int _,_,_,_,_,q,h=>upd0 h q qc
 | .str,_,_,_,_,q,h=>upd0 h q qc
 | .sl _,_,_,_,_,q,h=>upd0 h q qc
 | .ptr _,_,_,_,_,q,h=>upd0 h q qc
 | .fn _ _,_,_,_,_,q,h=>upd0 h q qc
 | .fn2 _ _ _,_,_,_,_,q,h=>upd0 h q qc
 | .mp _ _,_,_,_,_,q,h=>upd0 h q qc
theorem Rd.cell {t:Ty} {d:t.den} {cs:List Value} (q:Rd P t w M d cs) (h1:t.size=1) (h2:t.isSt=false):∃v,cs=[v]∧RdV P t w M d v:=by
 have hl:=q.len;rw[h1] at hl;obtain ⟨v,rfl⟩:=List.length_eq_one_iff.1 hl;have ho:=q.one v (by simp);have hv:v.cells= #[v]:=by cases v<;>simp_all [Value.cells,Value.oneCell']
 refine ⟨v,rfl,⟨?_,by rw[hv];exact q⟩⟩;unfold Ty.shape;rw[h2];constructor
 ·rintro ⟨us,rfl⟩;simp[Value.oneCell'] at ho
 ·intro h;cases h
theorem RdV.cell {t:Ty} {d:t.den} {v:Value} (q:RdV P t w M d v) (h2:t.isSt=false):Rd P t w M d [v]∧v.oneCell'=true∨∃vs,v= .tuple vs:=by
 by_cases c:∃vs,v= .tuple vs
 ·exact .inr c
 left;have hs:¬ ∃cs,v= .agg cs:=fun h=>by have:=q.1.1 h;rw[h2] at this;cases this
 have hv:v.cells= #[v]:=by cases v<;>simp_all [Value.cells]
 have:=q.2;rw[hv] at this;exact ⟨this,by cases v<;>simp_all [Value.oneCell']⟩
theorem RdV.one {t:Ty} {d:t.den} {v:Value} (q:RdV P t w M d v) (h2:t.isSt=false) (h1:t.size=1):Rd P t w M d [v]∧v.oneCell'=true:=by
 have hs:¬ ∃cs,v= .agg cs:=fun h=>by have:=q.1.1 h;rw[h2] at this;cases this
 have hv:v.cells= #[v]:=by cases v<;>simp_all [Value.cells]
 have:=q.2;rw[hv] at this;exact ⟨this,this.one v (by simp)⟩
variable {hp:Hp} {ψ:Nat→Value}
theorem AVRs.append {a b:List AV} {us vs:List Value} (h:AVRs P hp ψ w M a us) (h':AVRs P hp ψ w M b vs):AVRs P hp ψ w M (a++b) (us++vs):=by
 induction a generalizing us with
 |nil=>obtain rfl:us=[]:=h;exact h'
 |cons x xs ih=>obtain ⟨v,r,rfl,h1,h2⟩:=h;exact ⟨v,r++vs,rfl,h1,ih h2⟩
theorem AVRs.len {a:List AV} {us:List Value} (h:AVRs P hp ψ w M a us):us.length=a.length:=by
 induction a generalizing us with
 |nil=>obtain rfl:us=[]:=h;rfl
 |cons x xs ih=>obtain ⟨v,r,rfl,h1,h2⟩:=h;simp[ih h2]
theorem AVRs.at {a:List AV} {us:List Value} (h:AVRs P hp ψ w M a us) {i:Nat} {av:AV} (hi:a[i]?=some av):∃v,us[i]?=some v∧AVR P hp ψ w M av v:=by
 induction a generalizing us i with
 |nil=>simp at hi
 |cons x xs ih=>
  obtain ⟨v,r,rfl,h1,h2⟩:=h;cases i with
  |zero=>simp at hi;subst hi;exact ⟨v,rfl,h1⟩
  |succ i=>simpa using ih h2 (by simpa using hi)
theorem AVRs.drop {a:List AV} {us:List Value} (h:AVRs P hp ψ w M a us) (n:Nat):AVRs P hp ψ w M (a.drop n) (us.drop n):=by
 induction a generalizing us n with
 |nil=>obtain rfl:us=[]:=h;simp[AVRs]
 |cons x xs ih=>
  cases n with
  |zero=>exact h
  |succ n=>obtain ⟨v,r,rfl,h1,h2⟩:=h;simpa using ih h2 n
theorem AVRs.take {a:List AV} {us:List Value} (h:AVRs P hp ψ w M a us) (n:Nat):AVRs P hp ψ w M (a.take n) (us.take n):=by
 induction a generalizing us n with
 |nil=>obtain rfl:us=[]:=h;simp[AVRs]
 |cons x xs ih=>
  cases n with
  |zero=>simp[AVRs]
  |succ n=>obtain ⟨v,r,rfl,h1,h2⟩:=h;exact ⟨v,r.take n,rfl,h1,ih h2 n⟩
theorem scatter1 {t:Ty} {d:t.den} {cs:List Value} (q:Rd P t w M d cs) (h1:t.size=1) (h2:t.isSt=false):AVRs P hp ψ w M [.val t d] cs:=by
 obtain ⟨v,rfl,h⟩:=q.cell h1 h2;exact ⟨v,[],rfl,h,rfl⟩
theorem scatter_r:∀{t:Ty} {d:t.den} {cs:List Value},Rd P t w M d cs→AVRs P hp ψ w M (scatter t d) cs
 | .st t,_,_,q=>scatter_r (t:=t) q
 | .nil,_,_,q=>by obtain rfl:_=[]:=q;exact rfl
 | .cons a b,_,_,⟨c1,c2,e,q1,q2⟩=>by rw[e];exact AVRs.append (scatter_r q1) (scatter_r q2)
 | .bool,_,_,q=>scatter1 q rfl rfl
 | .int _,_,_,q=>scatter1 q rfl rfl
 | .str,_,_,q=>scatter1 q rfl rfl
 | .sl _,_,_,q=>scatter1 q rfl rfl
 | .ptr _,_,_,q=>scatter1 q rfl rfl
 | .fn _ _,_,_,q=>scatter1 q rfl rfl
 | .fn2 _ _ _,_,_,q=>scatter1 q rfl rfl
 | .mp _ _,_,_,q=>scatter1 q rfl rfl
end
def kill (hp:Hp) (ls:List Nat):Hp:=fun l=>if l∈ls then none else hp l
def ofCst:(t:Ty)→Value→Option t.den
 | .sl _,.slice none 0 0=>some []
 |_,_=>none
def ofNnl:(t:Ty)→Option t.den
 | .sl _=>some []
 |_=>none
def rd1 (lh:Hp) (t:Ty):AV→Option (t.den×List Nat)
 | .val t' d=>(cast? t t' d).map (·,[])
 | .own l=>match lh l with
  |some (.row _ t' xs)=>(cast? t (.sl t') xs).map (·,[l])
  |some (.mp k' t' xs)=>(cast? t (.mp k' t') xs).map (·,[l])
  |_=>none
 | .cst v=>(ofCst t v).map (·,[])
 | .sub l lo hi=>match lh l with
  |some (.row _ t' xs)=>(cast? t (.sl t') ((xs.take hi).drop lo)).map (·,[l])
  |_=>none
 | .nnl=>(ofNnl t).map (·,[])
 |_=>none
def rd1c (lh:Hp) (t:Ty):List AV→Option (t.den×List Nat×List AV)
 |a::r=>(rd1 lh t a).map fun x=>(x.1,x.2,r)
 |[]=>none
def rdc (lh:Hp):(t:Ty)→List AV→Option (t.den×List Nat×List AV)
 | .st t,cs=>rdc lh t cs
 | .nil,cs=>some ((),[],cs)
 | .cons a b,cs=>match rdc lh a cs with
  |some (x,l1,r)=>match rdc lh b r with
   |some (y,l2,r')=>some ((x,y),l1++l2,r')
   |none=>none
  |none=>none
 | .bool,cs=>rd1c lh .bool cs
 | .int k,cs=>rd1c lh (.int k) cs
 | .str,cs=>rd1c lh .str cs
 | .sl t,cs=>rd1c lh (.sl t) cs
 | .ptr t,cs=>rd1c lh (.ptr t) cs
 | .fn a r,cs=>rd1c lh (.fn a r) cs
 | .fn2 a b r,cs=>rd1c lh (.fn2 a b r) cs
 | .mp k t,cs=>rd1c lh (.mp k t) cs
def rdAgg (lh:Hp):(t:Ty)→List AV→Option (t.den×List Nat)
 | .st t,cs=>match rdc lh t cs with
  |some (d,l,[])=>some (d,l)
  |_=>none
 |_,_=>none
def rdPtr (lh:Hp):(t:Ty)→Nat→List AV→Option (t.den×List Nat)
 | .ptr t,l,cs=>match rdc lh t cs with
  |some (d,ls,[])=>some (d,l::ls)
  |_=>none
 |_,_,_=>none
def rd (lh:Hp) (t:Ty):AV→Option (t.den×List Nat)
 | .agg cs=>rdAgg lh t cs
 | .ptr l 0=>match lh l with
  |some (.box _ cs)=>rdPtr lh t l cs
  |_=>none
 |a=>rd1 lh t a
section
variable {P:Program} {B:Nat} {M:Nat→Prop} {hp lh:Hp} {ψ:Nat→Value} {w:World}
theorem Rd.less {M M':Nat→Prop} (hs:∀b,M' b→M b) (hm:∀b,M b→b<w.heap.size) {t:Ty} {d:t.den} {cs:List Value} (q:Rd P t w M d cs):Rd P t w M' d cs:=
 q.later ⟨Nat.le_refl _,fun _ _ _=>rfl,fun b _ h=>hs b h,fun b h=>hm b (hs b h)⟩
theorem kill_mu {ls:List Nat}:∀b,Mu M (kill hp ls) ψ b→Mu M hp ψ b:=by
 rintro b (q|⟨l,ob,h1,h2⟩)
 ·exact .inl q
 ·unfold kill at h1;split at h1
  ·cases h1
  ·exact .inr ⟨l,ob,h1,h2⟩
theorem Rd.kill (h:HOK P B M hp ψ w) (ls:List Nat) {t:Ty} {d:t.den} {cs:List Value} (q:Rd P t w (Mu M hp ψ) d cs):Rd P t w (Mu M (T.kill hp ls) ψ) d cs:=q.less kill_mu h.mu
theorem shape_sl {t:Ty} {A:Option Addr} {n c:Nat}:(Ty.sl t).shape (.slice A n c):=by unfold Ty.shape Ty.isSt;simp
theorem shape_ptr {t:Ty} {A:Option Addr}:(Ty.ptr t).shape (.pointer A):=by unfold Ty.shape Ty.isSt;simp
theorem rd_own (h:HOK P B M hp ψ w) {l:Nat} {e:TypeId} {t:Ty} {xs:List t.den} (hl:hp l=some (.row e t xs)) {ls:List Nat} (hin:l∈ls):RdV P (.sl t) w (Mu M (kill hp ls) ψ) xs (ψ l):=by
 obtain ⟨cells,⟨h1,h2⟩,hr⟩:=h.ob l _ hl;rcases h2 with ⟨h2,h3⟩|⟨g,cap,cur,h2,hB,hg,hn,hc,hcs,ht⟩
 ·rw[h2];refine ⟨shape_sl,none,0,0,rfl,h3,Nat.le_refl _,Nat.zero_le _,.inl rfl⟩
 ·rw[h2];refine ⟨shape_sl,_,_,_,rfl,rfl,hn,hc,.inr ⟨g,0,cells,rfl,lt_of_block hg,?_,?_,?_⟩⟩
  ·rintro (q|⟨l',ob',q1,q2⟩)
   ·exact h.md l _ g hl (by rw[h2];rfl) q
   ·unfold kill at q1;split at q1
    ·cases q1
    ·rename_i hni;exact hni (by rw[h.dj l' l ob' _ g q1 hl q2 (by rw[h2];rfl)];exact hin)
  ·intro j v hj;rw[Nat.zero_add];unfold World.cell?;simp only[hg];rw[←ht,List.getElem?_take] at hj;split at hj
   ·simpa using hj
   ·cases hj
  ·exact hr.mono fun x _ c q=>q.kill h ls
theorem shape_mp {k:IntKind} {t:Ty} {b:Option Nat}:(Ty.mp k t).shape (.map b):=by unfold Ty.shape Ty.isSt;simp
theorem rd_ownm (h:HOK P B M hp ψ w) {l:Nat} {k:IntKind} {t:Ty} {xs:List (Int×t.den)} (hl:hp l=some (.mp k t xs)) {ls:List Nat} (hin:l∈ls):RdV P (.mp k t) w (Mu M (kill hp ls) ψ) xs (ψ l):=by
 obtain ⟨b,es,clock,e,hB,hg,q⟩:=h.ob l _ hl;rw[e];refine ⟨shape_mp,b,es,clock,rfl,lt_of_block hg,?_,hg,q⟩;rintro (q|⟨l',ob',q1,q2⟩)
 ·exact h.md l _ b hl (by rw[e];rfl) q
 ·unfold kill at q1;split at q1
  ·cases q1
  ·rename_i hni;exact hni (by rw[h.dj l' l ob' _ b q1 hl q2 (by rw[e];rfl)];exact hin)
theorem RowsBy.cut {α:Type} {R:α→List Value→Prop} {n:Nat} (hR:∀x c,R x c→c.length=n) {xs:List α} {cs:List Value} (h:RowsBy R xs cs) (l m:Nat) (hl:l≤m) (hm:m≤xs.length):
  ∃c1 c c2,cs=c1++c++c2∧c1.length=l*n∧RowsBy R ((xs.take m).drop l) c:=by
 have e:xs=(xs.take m).take l++(xs.take m).drop l++xs.drop m:=by rw[List.take_append_drop,List.take_append_drop]
 rw[e] at h
 obtain ⟨c12,c3,rfl,h12,h3⟩:=h.split
 obtain ⟨c1,c2,rfl,h1,h2⟩:=h12.split
 refine ⟨c1,c2,c3,rfl,?_,h2⟩
 rw[RowsBy.len hR h1]
 congr 1
 simp;omega
theorem slice_fin {t:Ty} {M':Nat→Prop} {xs:List t.den} {v:Value} (hX:RdV P (.sl t) w M' xs v) (l h:Nat) (hlh:l≤h) (hh:h≤xs.length):
  ∃A n cp,v= .slice A n cp∧n=xs.length∧n≤cp∧RdV P (.sl t) w M' ((xs.take h).drop l) (sliced A l h cp t.size):=by
 obtain ⟨A,n,cp,e1,e2,e3,e4,e5⟩:=(RdV.one (t:=.sl t) hX rfl rfl).1
 simp only[List.cons.injEq,and_true] at e1
 refine ⟨A,n,cp,e1,e2.symm,e3,?_⟩
 have hlen:((xs.take h).drop l).length=h-l:=by simp;omega
 refine ⟨by unfold sliced;exact shape_sl,_,h-l,cp-l,by unfold sliced;rfl,hlen,by omega,by omega,?_⟩
 rcases e5 with e5|⟨b,off,cc,rfl,h1,h2,h3,h4⟩
 ·left;omega
 ·by_cases c0:h-l=0
  ·exact .inl c0
  ·right
   obtain ⟨c1,c,c2,rfl,k1,k2⟩:=h4.cut (fun _ _ q=>q.len) l h hlh hh
   refine ⟨b,off+l*t.size,c,?_,h1,h2,?_,k2⟩
   ·rw[if_neg (by omega)];simp[Addr.add_mid]
   ·rw[←k1];exact h3.left.right
theorem rd1_ok (h:HOK P B M hp ψ w) (hlh:∀l ob,lh l=some ob→hp l=some ob) {t:Ty} {a:AV} {d:t.den} {ls:List Nat} (hr:rd1 lh t a=some (d,ls)) {v:Value} (hv:AVR P hp ψ w (Mu M hp ψ) a v)
  {ls':List Nat} (hs:∀l∈ls,l∈ls'):RdV P t w (Mu M (kill hp ls') ψ) d v:=by
 unfold rd1 at hr
 split at hr
 ·obtain ⟨x,hx,e⟩:=Option.map_eq_some_iff.1 hr
  simp only[Prod.mk.injEq] at e
  obtain ⟨rfl,rfl⟩:=e
  have:=cast?_rdv hx hv
  exact ⟨this.1,this.2.kill h ls'⟩
 ·rename_i l
  split at hr
  ·rename_i e t' xs hl
   obtain ⟨x,hx,e⟩:=Option.map_eq_some_iff.1 hr
   simp only[Prod.mk.injEq] at e
   obtain ⟨rfl,rfl⟩:=e
   have hl':=hlh _ _ hl
   have:=hv _ hl'
   subst this
   exact cast?_rdv hx (rd_own h hl' (hs l (by simp)))
  ·rename_i k' t' xs hl
   obtain ⟨x,hx,e⟩:=Option.map_eq_some_iff.1 hr
   simp only[Prod.mk.injEq] at e
   obtain ⟨rfl,rfl⟩:=e
   have hl':=hlh _ _ hl
   have:=hv _ hl'
   subst this
   exact cast?_rdv hx (rd_ownm h hl' (hs l (by simp)))
  ·cases hr
 ·obtain ⟨x,hx,e⟩:=Option.map_eq_some_iff.1 hr
  simp only[Prod.mk.injEq] at e
  obtain ⟨rfl,rfl⟩:=e
  obtain rfl:v=_:=hv
  unfold ofCst at hx
  split at hx
  ·injection hx with hx;subst hx
   exact ⟨shape_sl,none,0,0,rfl,rfl,Nat.le_refl _,Nat.zero_le _,.inl rfl⟩
  ·cases hx
 ·rename_i l lo hi
  split at hr
  ·rename_i e t' xs hl
   obtain ⟨x,hx,e⟩:=Option.map_eq_some_iff.1 hr
   simp only[Prod.mk.injEq] at e
   obtain ⟨rfl,rfl⟩:=e
   have hl':=hlh _ _ hl
   obtain ⟨hlo,A,n,c,e1,e2,rfl⟩:=hv _ _ _ hl'
   have hown:=rd_own h hl' (hs l (by simp))
   have hlen:n=xs.length:=by
    obtain ⟨A',n',c',q1,q2,_⟩:=(RdV.one (t:=.sl t') hown rfl rfl).1;rw[e1] at q1;simp only[List.cons.injEq,Value.slice.injEq,and_true] at q1;rw[q1.2.1];exact q2.symm
   obtain ⟨A',n',c',q1,_,_,q4⟩:=slice_fin hown lo hi hlo (by omega)
   rw[e1] at q1
   simp only[Value.slice.injEq] at q1
   obtain ⟨rfl,_,rfl⟩:=q1
   exact cast?_rdv hx q4
  ·cases hr
 ·obtain ⟨x,hx,e⟩:=Option.map_eq_some_iff.1 hr
  simp only[Prod.mk.injEq] at e
  obtain ⟨rfl,rfl⟩:=e
  obtain ⟨A,rfl⟩:=hv
  unfold ofNnl at hx
  split at hx
  ·injection hx with hx;subst hx
   exact ⟨shape_sl,_,0,0,rfl,rfl,Nat.le_refl _,Nat.zero_le _,.inl rfl⟩
  ·cases hx
 ·cases hr
theorem rd1c_ok (h:HOK P B M hp ψ w) (hlh:∀l ob,lh l=some ob→hp l=some ob) {t:Ty} {cs r:List AV} {d:t.den} {ls:List Nat} (h1:t.size=1) (h2:t.isSt=false) (hr:rd1c lh t cs=some (d,ls,r)) {us:List Value} (hv:AVRs P hp ψ w (Mu M hp ψ) cs us)
  {ls':List Nat} (hs:∀l∈ls,l∈ls'):∃c vs,us=c++vs∧Rd P t w (Mu M (kill hp ls') ψ) d c∧AVRs P hp ψ w (Mu M hp ψ) r vs:=by
 cases cs with
 |nil=>simp[rd1c] at hr
 |cons a r'=>
  obtain ⟨v,vs,rfl,q1,q2⟩:=hv
  obtain ⟨x,hx,e⟩:=Option.map_eq_some_iff.1 hr
  simp only[Prod.mk.injEq] at e
  obtain ⟨rfl,rfl,rfl⟩:=e
  exact ⟨[v],vs,rfl,((rd1_ok h hlh hx q1 hs).one h2 h1).1,q2⟩
theorem rdc_ok (h:HOK P B M hp ψ w) (hlh:∀l ob,lh l=some ob→hp l=some ob) {ls':List Nat}:∀{t:Ty} {cs r:List AV} {d:t.den} {ls:List Nat},rdc lh t cs=some (d,ls,r)→∀{us:List Value},AVRs P hp ψ w (Mu M hp ψ) cs us→
  (∀l∈ls,l∈ls')→∃c vs,us=c++vs∧Rd P t w (Mu M (kill hp ls') ψ) d c∧AVRs P hp ψ w (Mu M hp ψ) r vs
 | .st t,_,_,_,_,hr,_,hv,hs=>rdc_ok h hlh (t:=t) hr hv hs
 | .nil,_,_,_,_,hr,us,hv,hs=>by
  simp only[rdc,Option.some.injEq,Prod.mk.injEq] at hr;obtain ⟨_,rfl,rfl⟩:=hr;exact ⟨[],us,rfl,rfl,hv⟩
 | .cons a b,cs,r,d,ls,hr,us,hv,hs=>by
  unfold rdc at hr;split at hr
  ·rename_i x l1 r1 h1;split at hr
   ·rename_i y l2 r2 h2;simp only[Option.some.injEq,Prod.mk.injEq] at hr;obtain ⟨rfl,rfl,rfl⟩:=hr;obtain ⟨c1,vs,rfl,q1,q2⟩:=rdc_ok h hlh (t:=a) h1 hv (fun l hl=>hs l (List.mem_append_left _ hl));obtain ⟨c2,vs',rfl,q3,q4⟩:=rdc_ok h hlh (t:=b) h2 q2 (fun l hl=>hs l (List.mem_append_right _ hl));exact ⟨c1++c2,vs',by simp,⟨c1,c2,rfl,q1,q3⟩,q4⟩
   ·cases hr
  ·cases hr
 | .bool,_,_,_,_,hr,_,hv,hs=>rd1c_ok h hlh rfl rfl hr hv hs
 | .int _,_,_,_,_,hr,_,hv,hs=>rd1c_ok h hlh rfl rfl hr hv hs
 | .str,_,_,_,_,hr,_,hv,hs=>rd1c_ok h hlh rfl rfl hr hv hs
 | .sl _,_,_,_,_,hr,_,hv,hs=>rd1c_ok h hlh rfl rfl hr hv hs
 | .ptr _,_,_,_,_,hr,_,hv,hs=>rd1c_ok h hlh rfl rfl hr hv hs
 | .fn _ _,_,_,_,_,hr,_,hv,hs=>rd1c_ok h hlh rfl rfl hr hv hs
 | .fn2 _ _ _,_,_,_,_,hr,_,hv,hs=>rd1c_ok h hlh rfl rfl hr hv hs
 | .mp _ _,_,_,_,_,hr,_,hv,hs=>rd1c_ok h hlh rfl rfl hr hv hs
theorem rd_ok (h:HOK P B M hp ψ w) (hlh:∀l ob,lh l=some ob→hp l=some ob) {t:Ty} {a:AV} {d:t.den} {ls:List Nat} (hr:rd lh t a=some (d,ls)) {v:Value} (hv:AVR P hp ψ w (Mu M hp ψ) a v)
  {ls':List Nat} (hs:∀l∈ls,l∈ls'):RdV P t w (Mu M (kill hp ls') ψ) d v:=by
 unfold rd at hr
 split at hr
 ·rename_i cs
  unfold rdAgg at hr
  split at hr
  ·split at hr
   ·rename_i t d' l' h1
    simp only[Option.some.injEq,Prod.mk.injEq] at hr
    obtain ⟨rfl,rfl⟩:=hr
    obtain ⟨us,rfl,q,_⟩:=hv
    obtain ⟨c,vs,e,q1,q2⟩:=rdc_ok h hlh h1 q hs
    obtain rfl:vs=[]:=q2
    refine ⟨by unfold Ty.shape Ty.isSt;simp,?_⟩
    rw[List.append_nil] at e
    show Rd P _ w _ _ us.toList
    rw[e];exact q1
   ·cases hr
  ·cases hr
 ·rename_i l
  split at hr
  ·rename_i T cs hl
   unfold rdPtr at hr
   split at hr
   ·split at hr
    ·rename_i t d' ls0 h1
     simp only[Option.some.injEq,Prod.mk.injEq] at hr
     obtain ⟨rfl,rfl⟩:=hr
     have hl':=hlh _ _ hl
     obtain ⟨b,cells,e,hB,hg,q,_⟩:=h.ob l _ hl'
     obtain ⟨b',e',rfl⟩:=hv _ hl'
     rw[e] at e'
     simp only[Value.pointer.injEq,Option.some.injEq,Addr.mk.injEq,and_true] at e'
     subst e'
     obtain ⟨c,vs,e1,q1,q2⟩:=rdc_ok h hlh h1 q (ls':=ls') (fun l hl=>hs l (List.mem_cons_of_mem _ hl))
     obtain rfl:vs=[]:=q2
     rw[List.append_nil] at e1
     refine ⟨shape_ptr,b,0,c,rfl,lt_of_block hg,?_,?_,q1⟩
     ·rintro (q|⟨l',ob',q1,q2⟩)
      ·exact h.md l _ b hl' (by rw[e];rfl) q
      ·unfold kill at q1
       split at q1
       ·cases q1
       ·rename_i hni
        exact hni (by rw[h.dj l' l ob' _ b q1 hl' q2 (by rw[e];rfl)];exact hs l (by simp))
     ·intro j v hj
      rw[Nat.zero_add]
      unfold World.cell?
      simp only[hg]
      rw[←e1] at hj
      simpa using hj
    ·cases hr
   ·cases hr
  ·cases hr
 ·exact rd1_ok h hlh hr hv hs
end
end T
end Go.Proofs.YtpocfbfmjippnaaGreat
end
section
namespace Go.Proofs.YtpocfbfmjippnaaGreat
open Go.RowKit
namespace T
structure Ent where
 f:FuncId
 a:Ty
 r:Ty
 many:Bool
 fresh:Option TypeId
 pre:a.den→Prop
 F:a.den→r.den
section
variable (P:Program)
def RdL:(t:Ty)→World→(Nat→Prop)→t.den→List Value→Prop
 | .nil,_,_,_,vs=>vs=[]
 | .cons a b,w,M,d,vs=>∃v r,vs=v::r∧RdV P a w M d.1 v∧RdL b w M d.2 r
 |_,_,_,_,_=>False
def Fresh (B:Nat) (w:World) (M:Nat→Prop) (e:TypeId):(t:Ty)→t.den→Value→Prop
 | .sl t,d,v=>∃cells,w.ownsRow B e t.size v d.length cells∧RowsBy (fun x c=>Rd P t w (fun b=>M b∨blk v=some b) x c) d cells
 |_,_,_=>False
def RdRes (many:Bool) (t:Ty) (w:World) (M:Nat→Prop) (d:t.den) (v:Value):Prop:=
 if many then∃us,v= .tuple us∧RdL P t w M d us.toList else RdV P t w M d v
def Con0 (e:Ent):Prop:=funcOk P e.f=true∧∀x,e.pre x→∀w M vs,(∀b,M b→b<w.heap.size)→RdL P e.a w M x vs→
 Calls P e.f vs.toArray w fun en w'=>∃v,en= .returned v∧Below w.heap.size w w'∧(match e.fresh with
  |some t=>Fresh P w.heap.size w' M t e.r (e.F x) v
  |none=>RdRes P e.many e.r w' M (e.F x) v)
def OwnCon:Ent→Prop
 |⟨f,.cons (.sl t) ar,.sl t',_,some T,pre,F⟩=>funcOk P f=true∧∀(x:List t.den) (y:ar.den),pre (x,y)→∀w M v us cells,(∀b,M b→b<w.heap.size)→(∀b,blk v=some b→M b)→w.ownsRow 0 T t.size v x.length cells→RowsBy (fun x c=>Rd P t w M x c) x cells→RdL P ar w M y us→(∀u∈us,∀b,blk u=some b→blk v≠some b∧∃cur e,w.heap[b]?=some (.cells cur e (0,0)))→
   Calls P f (v::us).toArray w fun en w'=>∃v' cells',en= .returned v'∧w'.ownsRow 0 T t'.size v' (F (x,y)).length cells'∧RowsBy (fun x c=>Rd P t' w M x c) (F (x,y)) cells'∧w.grownBy w' v.ownBlock∧(blk v'=blk v∨∃g,blk v'=some g∧w.heap.size≤g)
 |_=>False
def Ent.own (e:Ent):Bool:=e.many&&e.fresh.isSome
def Con (e:Ent):Prop:=if e.own then OwnCon P e else Con0 P e
variable {P} in
theorem Con.is {e:Ent} (h:Con P e) (ho:e.own=false):Con0 P e:=by unfold Con at h;rwa [ho,if_neg (by simp)] at h
variable {P} in
theorem Con.to {e:Ent} (h:Con0 P e) (ho:e.own=false):Con P e:=by unfold Con;rwa [ho,if_neg (by simp)]
end
structure Eff where
 v:AV
 kill:List Nat
 put:Option (Nat×OB)
def putHp (hp:Hp) (l:Nat) (ob:OB):Hp:=fun x=>if x=l then some ob else hp x
def Eff.app (e:Eff) (hp:Hp):Hp:=match e.put with
 |none=>T.kill hp e.kill
 |some (l,ob)=>putHp (T.kill hp e.kill) l ob
def OpPost (P:Program) (B:Nat) (M:Nat→Prop) (hp:Hp) (ψ:Nat→Value) (w:World) (fr:Nat) (e:Eff) (v:Value) (w':World):Prop:=
 ∃ψ',HOK P B M (e.app hp) ψ' w'∧Stay B M w w'∧AVR P (e.app hp) ψ' w' (Mu M (e.app hp) ψ') e.v v∧
  ∀av u,fr∉av.locs→AVR P hp ψ w (Mu M hp ψ) av u→AVR P (e.app hp) ψ' w' (Mu M (e.app hp) ψ') av u
def Fen (r:Option Nat):Fence:={ Fence.wide with round:=r }
theorem fen_calls {r:Option Nat} {n:Nat} {P:Program} {f:FuncId} {vs:Array Value} {w:World} {R:Ending→World→Prop} (h:Calls P f vs w R):CallsIn (Fen r) n P f vs w R:=callsIn_wide.2 h
theorem execOp_defer {P:Program} {ρ:Operand→Value} {o:Oper} {w w':World} {x:Next} (h:(execOp ρ o).run P w= .ok x w') (hx:(∃v,x= .value v)∨x= .skip∨∃f vs,x= .enter f vs):∀c,o.op≠ .defer c:=by
 intro c hc;unfold execOp at h;rw[hc] at h;simp only[Sem.run_bind] at h;cases hr:(resolve ρ c o.type).run P w with
 |ok d w1=>
  rw[hr] at h;simp at h;rcases hx with ⟨v,rfl⟩|rfl|⟨f,vs,rfl⟩<;>cases h.1
 |halt _ _=>rw[hr] at h;simp at h
def Does (P:Program) (o:Oper) (a:Act) (w:World) (R:Value→World→Prop):Prop:=∀(r:Option Nat) (K:Act→World→Prop) (Q:Exit→Act→World→Prop),(∀v w',R v w'→K (a.put o.dst v) w')→o.wpIn (Fen r) 0 P a w K Q
def Up (r:Option Nat) (P:Program) (ops:Array Oper) (o:Oper) (a:Act) (w:World) (K:Act→World→Prop) (Q:Exit→Act→World→Prop):Prop:=
 if Region.wanted o (yielded ops a.tmps) then o.wpIn (Fen r) 0 P a w K Q else K (a.put o.dst undef) w
theorem up_ops {r:Option Nat} {P:Program} {ops:Array Oper} {o:Oper} {a:Act} {w:World} {K:Act→World→Prop} {Q:Exit→Act→World→Prop} (h:Up r P ops o a w K Q):
  if Region.wanted o (yielded ops a.tmps) then o.wpIn (Fen r) 0 P a w K Q else (∀f,o.about P w a.eval=some f→(Fen r).fn f)∧K (a.put o.dst undef) w:=by
 unfold Up at h
 split
 ·rename_i c;rwa [if_pos c] at h
 ·rename_i c;rw[if_neg c] at h;exact ⟨fun _ _=>trivial,h⟩
section
variable {P:Program} {B:Nat} {M:Nat→Prop} {hp:Hp} {ψ:Nat→Value} {w w':World} {fr:Nat}
theorem does_run {o:Oper} {a:Act} {v:Value} {R:Value→World→Prop} (h:(execOp a.eval o).run P w= .ok (.value v) w') (hR:R v w'):Does P o a w R:=fun r K Q hK=>by
 refine ⟨fun _ _=>trivial,?_⟩;rw[Oper.semAt_eq _ _ _ (execOp_defer h (.inl ⟨_,rfl⟩)),h];exact hK v w' hR
theorem does_skip {o:Oper} {a:Act} {R:Value→World→Prop} (h:(execOp a.eval o).run P w= .ok .skip w') (hR:R undef w'):Does P o a w R:=fun r K Q hK=>by
 refine ⟨fun _ _=>trivial,?_⟩;rw[Oper.semAt_eq _ _ _ (execOp_defer h (.inr (.inl rfl))),h];exact hK undef w' hR
theorem does_call {o:Oper} {a:Act} {f:FuncId} {vs:Array Value} {R:Value→World→Prop} (h:(execOp a.eval o).run P w= .ok (.enter f vs) w) (hc:Calls P f vs w fun e w'=>∃v,e= .returned v∧R v w'):Does P o a w R:=fun r K Q hK=>by
 refine ⟨fun _ _=>trivial,?_⟩;rw[Oper.semAt_eq _ _ _ (execOp_defer h (.inr (.inr ⟨_,_,rfl⟩))),h];refine ⟨fun q=>(by cases q),fen_calls (hc.mono ?_)⟩;rintro e w' ⟨v,rfl,hR⟩;exact hK v w' hR
theorem kill_nil:T.kill hp []=hp:=by funext l;simp[T.kill]
theorem app_none {av:AV} {ks:List Nat}:(Eff.mk av ks none).app hp=T.kill hp ks:=rfl
theorem app_nil {av:AV}:(Eff.mk av [] none).app hp=hp:=kill_nil
theorem app_put {av:AV} {ks:List Nat} {l:Nat} {ob:OB}:(Eff.mk av ks (some (l,ob))).app hp=putHp (T.kill hp ks) l ob:=rfl
structure Ctx (P:Program) (B:Nat) (M:Nat→Prop) (hp:Hp) (ψ:Nat→Value) (w:World) (fr:Nat):Prop where
 hok:HOK P B M hp ψ w
 new:hp fr=none
 obs:∀l ob,hp l=some ob→fr∉ob.locs
theorem Ctx.turn (c:Ctx P B M hp ψ w fr) {tc:List Nat} {ψ':Nat→Value} {e:Eff} {v:Value} (t:Turn P B M hp ψ w tc fr (e.app hp) ψ' w')
  (hT:∀l ob,(l∈tc∨l=fr)→e.app hp l=some ob→OBR P B (e.app hp) ψ' w' (Mu M (e.app hp) ψ') l ob)
  (hv:AVR P (e.app hp) ψ' w' (Mu M (e.app hp) ψ') e.v v):OpPost P B M hp ψ w fr e v w':=
 ⟨ψ',t.hok c.hok c.obs hT,t.stay c.hok,hv,fun _ _ h q=>t.av c.hok h q⟩
theorem Ctx.quiet (c:Ctx P B M hp ψ w fr) {av:AV} {v:Value} (hb:Below w.heap.size w w') (hv:AVR P hp ψ w' (Mu M hp ψ) av v):OpPost P B M hp ψ w fr ⟨av,[],none⟩ v w':=by
 refine Ctx.turn (ψ':=ψ) (tc:=[]) c ?_ ?_ ?_
 ·rw[app_nil];exact Turn.quiet hb c.new
 ·rw[app_nil];intro l ob h1 h2;rcases h1 with h1|rfl
  ·cases h1
  ·rw[c.new] at h2;cases h2
 ·rw[app_nil];exact hv
theorem Ctx.pure (c:Ctx P B M hp ψ w fr) {av:AV} {v:Value} (hv:AVR P hp ψ w (Mu M hp ψ) av v):OpPost P B M hp ψ w fr ⟨av,[],none⟩ v w:=c.quiet (Below.refl _ _) hv
theorem kill_some {ks:List Nat} {l:Nat} {ob:OB} (h:T.kill hp ks l=some ob):l∉ks∧hp l=some ob:=by
 unfold T.kill at h;split at h
 ·cases h
 ·rename_i q;exact ⟨q,h⟩
theorem kill_not {ks:List Nat} {l:Nat} (h:l∉ks):T.kill hp ks l=hp l:=by unfold T.kill;rw[if_neg h]
theorem like_refl (ob:OB):ob.like ob:=by cases ob<;>simp[OB.like]
theorem Ctx.kills (c:Ctx P B M hp ψ w fr) {av:AV} {v:Value} {ks:List Nat} (hb:Below w.heap.size w w') (hv:AVR P (T.kill hp ks) ψ w' (Mu M (T.kill hp ks) ψ) av v):OpPost P B M hp ψ w fr ⟨av,ks,none⟩ v w':=by
 refine Ctx.turn (ψ':=ψ) (tc:=ks) c ?_ ?_ hv
 ·rw[app_none];exact {
   os:=hb.os,tape:=hb.tape,output:=hb.output,size:=hb.size
   same:=fun b h _=>hb.block b h
   psi:=fun _ _=>rfl
   new:=c.new
   rest:=fun l h _=>kill_not h
   kind:=fun l ob' _ h=>⟨ob',(kill_some h).2,like_refl _⟩
   lies:=fun l ob b h1 h2 _=>by
    obtain ⟨q1,q2⟩:=kill_some h2;rcases h1 with h1|rfl
    ·exact absurd h1 q1
    ·rw[c.new] at q2;cases q2
   one:=fun l l' ob ob' h1 _ h2 _=>by
    obtain ⟨q1,q2⟩:=kill_some h2;rcases h1 with h1|rfl
    ·exact absurd h1 q1
    ·rw[c.new] at q2;cases q2 }
 ·rw[app_none];intro l ob h1 h2;obtain ⟨q1,q2⟩:=kill_some h2;rcases h1 with h1|rfl
  ·exact absurd h1 q1
  ·rw[c.new] at q2;cases q2
def upd' (ψ:Nat→Value) (l:Nat) (v:Value):Nat→Value:=fun x=>if x=l then v else ψ x
@[simp] theorem upd'_same (ψ:Nat→Value) (l:Nat) (v:Value):upd' ψ l v l=v:=by simp[upd']
theorem upd'_other (ψ:Nat→Value) {l x:Nat} (v:Value) (h:x≠l):upd' ψ l v x=ψ x:=by simp[upd',h]
@[simp] theorem putHp_same (hp:Hp) (l:Nat) (ob:OB):putHp hp l ob l=some ob:=by simp[putHp]
theorem putHp_other (hp:Hp) {l x:Nat} (ob:OB) (h:x≠l):putHp hp l ob x=hp x:=by simp[putHp,h]
theorem Ctx.news (c:Ctx P B M hp ψ w fr) {av:AV} {v u:Value} {ks:List Nat} {ob:OB} (os:w'.os=w.os) (tape:w'.tape=w.tape) (output:w'.output=w.output) (size:w.heap.size≤w'.heap.size)
  (same:∀b,b<w.heap.size→(∀l∈ks,∀ob,hp l=some ob→blk (ψ l)≠some b)→w'.heap[b]?=w.heap[b]?)
  (lies:∀b,blk u=some b→(w.heap.size≤b∧b<w'.heap.size)∨∃l0∈ks,∃ob0,hp l0=some ob0∧blk (ψ l0)=some b)
  (hob:Later w (Mu M hp ψ) w' (Mu M (putHp (T.kill hp ks) fr ob) (upd' ψ fr u))→OBR P B (putHp (T.kill hp ks) fr ob) (upd' ψ fr u) w' (Mu M (putHp (T.kill hp ks) fr ob) (upd' ψ fr u)) fr ob)
  (hv:Later w (Mu M hp ψ) w' (Mu M (putHp (T.kill hp ks) fr ob) (upd' ψ fr u))→AVR P (putHp (T.kill hp ks) fr ob) (upd' ψ fr u) w' (Mu M (putHp (T.kill hp ks) fr ob) (upd' ψ fr u)) av v):OpPost P B M hp ψ w fr ⟨av,ks,some (fr,ob)⟩ v w':=by
 have t:Turn P B M hp ψ w ks fr (putHp (T.kill hp ks) fr ob) (upd' ψ fr u) w':={
   os:=os,tape:=tape,output:=output,size:=size
   same:=same
   psi:=fun l h=>upd'_other ψ u h
   new:=c.new
   rest:=fun l h h'=>by rw[putHp_other _ _ h',kill_not h]
   kind:=fun l ob' hl h=>⟨ob',by rw[putHp_other _ _ hl] at h;exact (kill_some h).2,like_refl _⟩
   lies:=fun l ob1 b h1 h2 h3=>by
    by_cases e:l=fr
    ·subst e;rw[upd'_same] at h3;exact lies b h3
    ·rw[putHp_other _ _ e] at h2;exact absurd (h1.resolve_right e) (kill_some h2).1
   one:=fun l l' ob ob' h1 h1' h2 h2'=>by
    have key:∀x ob,(x∈ks∨x=fr)→putHp (T.kill hp ks) fr ob x=some ob→x=fr:=fun x ob k1 k2=>by
     by_cases e:x=fr
     ·exact e
     ·rw[putHp_other _ _ e] at k2;exact absurd (k1.resolve_right e) (kill_some k2).1
    have key':∀x ob',(x∈ks∨x=fr)→putHp (T.kill hp ks) fr (‹OB›) x=some ob'→x=fr:=fun x ob' k1 k2=>by
     by_cases e:x=fr
     ·exact e
     ·rw[putHp_other _ _ e] at k2;exact absurd (k1.resolve_right e) (kill_some k2).1
    by_cases e:l=fr
    ·by_cases e':l'=fr
     ·rw[e,e']
     ·rw[putHp_other _ _ e'] at h2';exact absurd (h1'.resolve_right e') (kill_some h2').1
    ·rw[putHp_other _ _ e] at h2;exact absurd (h1.resolve_right e) (kill_some h2).1 }
 refine Ctx.turn (ψ':=upd' ψ fr u) (tc:=ks) c (by rw[app_put];exact t) ?_ (by rw[app_put];exact hv (t.later c.hok))
 rw[app_put]
 intro l ob' h1 h2
 by_cases e:l=fr
 ·subst e;rw[putHp_same] at h2;injection h2 with h2;subst h2;exact hob (t.later c.hok)
 ·rw[putHp_other _ _ e] at h2
  exact absurd (h1.resolve_right e) (kill_some h2).1
theorem Ctx.fresh (c:Ctx P B M hp ψ w fr) {av:AV} {v u:Value} {ks:List Nat} {ob:OB} (hb:Below w.heap.size w w') (lies:∀b,blk u=some b→w.heap.size≤b∧b<w'.heap.size)
  (hob:Later w (Mu M hp ψ) w' (Mu M (putHp (T.kill hp ks) fr ob) (upd' ψ fr u))→OBR P B (putHp (T.kill hp ks) fr ob) (upd' ψ fr u) w' (Mu M (putHp (T.kill hp ks) fr ob) (upd' ψ fr u)) fr ob)
  (hv:Later w (Mu M hp ψ) w' (Mu M (putHp (T.kill hp ks) fr ob) (upd' ψ fr u))→AVR P (putHp (T.kill hp ks) fr ob) (upd' ψ fr u) w' (Mu M (putHp (T.kill hp ks) fr ob) (upd' ψ fr u)) av v):OpPost P B M hp ψ w fr ⟨av,ks,some (fr,ob)⟩ v w':=
 c.news hb.os hb.tape hb.output hb.size (fun b h _=>hb.block b h) (fun b h=>.inl (lies b h)) hob hv
theorem Ctx.write (c:Ctx P B M hp ψ w fr) {av:AV} {v:Value} {ks:List Nat} {l:Nat} {ob ob0:OB} (hl:hp l=some ob0) (hlk:ob0.like ob) (hks:l∉ks) (os:w'.os=w.os) (tape:w'.tape=w.tape) (output:w'.output=w.output) (size:w.heap.size≤w'.heap.size)
  (same:∀b,b<w.heap.size→blk (ψ l)≠some b→w'.heap[b]?=w.heap[b]?)
  (hob:Later w (Mu M hp ψ) w' (Mu M (putHp (T.kill hp ks) l ob) ψ)→OBR P B (putHp (T.kill hp ks) l ob) ψ w' (Mu M (putHp (T.kill hp ks) l ob) ψ) l ob)
  (hv:Later w (Mu M hp ψ) w' (Mu M (putHp (T.kill hp ks) l ob) ψ)→AVR P (putHp (T.kill hp ks) l ob) ψ w' (Mu M (putHp (T.kill hp ks) l ob) ψ) av v):OpPost P B M hp ψ w fr ⟨av,ks,some (l,ob)⟩ v w':=by
 have hlf:l≠fr:=fun e=>by rw[e,c.new] at hl;cases hl
 have t:Turn P B M hp ψ w (l::ks) fr (putHp (T.kill hp ks) l ob) ψ w':={
   os:=os,tape:=tape,output:=output,size:=size
   same:=fun b h h'=>same b h (h' l (by simp) ob0 hl)
   psi:=fun _ _=>rfl
   new:=c.new
   rest:=fun x h h'=>by
    simp only[List.mem_cons,not_or] at h;rw[putHp_other _ _ h.1,kill_not h.2]
   kind:=fun x ob' hx h=>by
    by_cases e:x=l
    ·subst e;rw[putHp_same] at h;injection h with h;subst h;exact ⟨ob0,hl,hlk⟩
    ·rw[putHp_other _ _ e] at h;exact ⟨ob',(kill_some h).2,like_refl _⟩
   lies:=fun x ob1 b h1 h2 h3=>by
    by_cases e:x=l
    ·subst e;exact .inr ⟨x,by simp,ob0,hl,h3⟩
    ·rw[putHp_other _ _ e] at h2;obtain ⟨q1,q2⟩:=kill_some h2;rcases h1 with h1|rfl
     ·rcases List.mem_cons.1 h1 with h1|h1
      ·exact absurd h1 e
      ·exact absurd h1 q1
     ·rw[c.new] at q2;cases q2
   one:=fun x y ob1 ob2 h1 h1' h2 h2'=>by
    have key:∀x ob1,(x∈l::ks∨x=fr)→putHp (T.kill hp ks) l ob x=some ob1→x=l:=fun x ob1 h1 h2=>by
     by_cases e:x=l
     ·exact e
     ·rw[putHp_other _ _ e] at h2;obtain ⟨q1,q2⟩:=kill_some h2;rcases h1 with h1|rfl
      ·rcases List.mem_cons.1 h1 with h1|h1
       ·exact h1
       ·exact absurd h1 q1
      ·rw[c.new] at q2;cases q2
    rw[key x ob1 h1 h2,key y ob2 h1' h2'] }
 refine Ctx.turn (ψ':=ψ) (tc:=l::ks) c (by rw[app_put];exact t) ?_ (by rw[app_put];exact hv (t.later c.hok))
 rw[app_put]
 intro x ob' h1 h2
 by_cases e:x=l
 ·subst e;rw[putHp_same] at h2;injection h2 with h2;subst h2;exact hob (t.later c.hok)
 ·rw[putHp_other _ _ e] at h2
  obtain ⟨q1,q2⟩:=kill_some h2
  rcases h1 with h1|rfl
  ·rcases List.mem_cons.1 h1 with h1|h1
   ·exact absurd h1 e
   ·exact absurd h1 q1
  ·rw[c.new] at q2;cases q2
end
end T
end Go.Proofs.YtpocfbfmjippnaaGreat
end
section
namespace Go.Proofs.YtpocfbfmjippnaaGreat
open Go.RowKit
namespace T
inductive XA
 |t (n:Nat)|int (k:IntKind) (n:Int)|bool (b:Bool)|str (s:ByteArray)|nil|fn (f:FuncId)|nilp|nilm
def XA.opnd:XA→Operand
 | .t n=>.tmp n
 | .int k n=>.const (.int k n)
 | .bool b=>.const (.bool b)
 | .str s=>.const (.string s)
 | .nil=>.const (.slice none 0 0)
 | .fn f=>.func f
 | .nilp=>.const (.pointer none)
 | .nilm=>.const (.map none)
def tmG:List (Nat×AV)→Nat→AV
 |[],_=>.top
 |(k,v)::r,t=>if t=k then v else tmG r t
def XA.slot:XA→List Nat
 | .t k=>[k]
 |_=>[]
def XA.av (tm:List (Nat×AV)):XA→AV
 | .t n=>tmG tm n
 | .int k n=>.val (.int k) n
 | .bool b=>.val .bool b
 | .str s=>.val .str s
 | .nil=>.cst (.slice none 0 0)
 | .fn f=>.clo f []
 | .nilp=>.cst (.pointer none)
 | .nilm=>.cst (.map none)
def XA.ok:XA→Prop
 | .int k n=>k.min≤n∧n≤k.max
 | .str s=>s.size≤maxLen
 |_=>True
def opOk:Operand→XA→Bool
 | .tmp n,.t m=>n==m
 | .const (.int k n),.int k' n'=>k==k'&&n==n'&&decide (k.min≤n)&&decide (n≤k.max)
 | .const (.bool b),.bool b'=>b==b'
 | .const (.string s),.str s'=>decide (s=s')&&decide (s.size≤maxLen)
 | .const (.slice none 0 0),.nil=>true
 | .const (.pointer none),.nilp=>true
 | .const (.map none),.nilm=>true
 | .func f,.fn g=>f==g
 |_,_=>false
def opsOk:List Operand→List XA→Bool
 |[],[]=>true
 |o::os,x::xs=>opOk o x&&opsOk os xs
 |_,_=>false
inductive XOp
 |mv|nilrow (e:TypeId) (t:Ty)|nilck|pick|alloc (T:TypeId) (t:Ty)|box (T:TypeId)|load (t:Ty)|store (t:Ty)|bin (op:BinOp)|beq (neg:Bool) (t:Ty)|steq (neg:Bool) (t:Ty)|mkmap (k:IntKind) (t:Ty)|mapget (k:IntKind) (t:Ty) (ok:Bool)|mapset (k:IntKind) (t:Ty)|mapdel (k:IntKind) (t:Ty)|isnil (neg:Bool) (t:Ty)|not|neg|conv (k:IntKind)
 |field (off:Nat) (t:Ty)|faddr (off:Nat) (t:Ty)|iaddr (t:Ty)|slice (t:Ty) (lo hi own:Bool)|mkslice (e:TypeId) (t:Ty) (bytes:Nat)|mkarr (e:TypeId) (bytes:Nat)|build (t:Ty) (parts:List (Nat×Ty))
 |bslice (e:TypeId) (t:Ty) (n:Nat) (idx:List Nat)|extract (i:Nat)|call (f:FuncId)|callv|len (str:Bool)|append (e:TypeId) (t:Ty) (bytes:Nat)|min|max|mkfn (f:FuncId)|mkbnd (f:FuncId)|copy (e:TypeId) (t:Ty)|clear (e:TypeId) (t:Ty)|allocz (T:TypeId) (m:Nat)|mrange (k:IntKind) (t:Ty)|entry|nnl (e:TypeId) (t:Ty)|calld (f:FuncId)|isnilk (neg:Bool) (t:Ty)
def intBin (op:BinOp) (k:IntKind) (x y:Int):Option (Prop×AV):=
 match op with
 | .add=>some (True,.val (.int k) (k.wrap (x+y)))
 | .sub=>some (True,.val (.int k) (k.wrap (x-y)))
 | .mul=>some (True,.val (.int k) (k.wrap (x*y)))
 | .quo=>some (y≠0,.val (.int k) (k.wrap (x.tdiv y)))
 | .rem=>some (y≠0,.val (.int k) (x.tmod y))
 | .and=>some (True,.val (.int k) (k.wrap (BitVec.ofInt k.bits x&&&BitVec.ofInt k.bits y).toNat))
 | .or=>some (True,.val (.int k) (k.wrap (BitVec.ofInt k.bits x|||BitVec.ofInt k.bits y).toNat))
 | .xor=>some (True,.val (.int k) (k.wrap (BitVec.ofInt k.bits x^^^BitVec.ofInt k.bits y).toNat))
 | .andNot=>some (True,.val (.int k) (k.wrap (BitVec.ofInt k.bits x&&& ~~~ BitVec.ofInt k.bits y).toNat))
 | .eql=>some (True,.val .bool (x==y))
 | .neq=>some (True,.val .bool (x !=y))
 | .lss=>some (True,.val .bool (decide (x<y)))
 | .leq=>some (True,.val .bool (decide (x≤y)))
 | .gtr=>some (True,.val .bool (decide (x>y)))
 | .geq=>some (True,.val .bool (decide (x≥y)))
 |_=>none
def binx (op:BinOp):AV→AV→Option (Prop×AV)
 | .val (.int k) x,.val (.int k') y=>
  match op with
  | .shl=>some (0≤y,.val (.int k) (k.wrap (x*2^(Nat.min y.toNat k.bits))))
  | .shr=>some (0≤y,.val (.int k) (Int.fdiv x (2^(Nat.min y.toNat k.bits))))
  |op=>if k=k' then intBin op k x y else none
 |_,_=>none
def eqx:(t:Ty)→AV→AV→Option Bool
 | .bool,.val .bool x,.val .bool y=>some (x==y)
 | .str,.val .str x,.val .str y=>some (x.toList==y.toList)
 |_,_,_=>none
def eqd:(t:Ty)→t.den→t.den→Bool
 | .bool,x,y=>x==y
 | .int _,x,y=>x==y
 | .str,x,y=>x.toList==y.toList
 | .st t,x,y=>eqd t x y
 | .cons a b,x,y=>eqd a x.1 y.1&&eqd b x.2 y.2
 | .nil,_,_=>true
 |_,_,_=>false
def eqsx (lh:Hp) (t:Ty) (a b:AV):Option Bool:=match rd lh t a with
 |some (x,ls)=>match rd lh t b with
  |some (y,ms)=>some (eqd t x y)
  |none=>none
 |none=>none
def mget {α:Type} (z:α):List (Int×α)→Int→α
 |[],_=>z
 |p::r,i=>if p.1=i then p.2 else mget z r i
def mhas {α:Type}:List (Int×α)→Int→Bool
 |[],_=>false
 |p::r,i=>if p.1=i then true else mhas r i
def mset {α:Type}:List (Int×α)→Int→α→List (Int×α)
 |[],i,v=>[(i,v)]
 |p::r,i,v=>if p.1=i then (i,v)::r else p::mset r i v
def mdel {α:Type}:List (Int×α)→Int→List (Int×α)
 |[],_=>[]
 |p::r,i=>if p.1=i then r else p::mdel r i
def mapOf (lh:Hp) (k:IntKind) (t:Ty):AV→Option (Nat×List (Int×t.den))
 | .own l=>match lh l with
  |some (.mp k' t' xs)=>(cast? (.sl (.cons (.int k) t)) (.sl (.cons (.int k') t')) xs).map fun ys=>(l,ys)
  |_=>none
 |_=>none
def keyOf' (k:IntKind):AV→Option Int
 | .val (.int k') i=>if k'=k then some i else none
 |_=>none
def cellsOf (lh:Hp):AV→Option (List AV)
 | .agg cs=>some cs
 | .val t d=>some (scatter t d)
 | .own l=>(lh l).map fun _=>[.own l]
 | .ptr l o=>(lh l).map fun _=>[.ptr l o]
 | .arr l n=>(lh l).map fun _=>[.arr l n]
 | .nnl=>some [.nnl]
 | .clo f cap=>some [.clo f cap]
 | .cst (.slice none 0 0)=>some [.cst (.slice none 0 0)]
 |_=>none
def partOf (t:Ty) (cs:List AV) (off:Nat):Option AV:=
 if t.isSt then (if off+t.size≤cs.length then some (.agg ((cs.drop off).take t.size)) else none) else cs[off]?
def loadx (lh:Hp) (t:Ty):AV→Option (Prop×AV)
 | .ptr l o=>match lh l with
  |some (.box _ cs)=>(partOf t cs o).map fun c=>(True,c)
  |_=>none
 | .val (.ptr t') d=>(cast? t t' d).map fun e=>(True,.val t e)
 | .eptr l i o=>match lh l with
  |some (.row _ t' xs)=>(proj t t' (xs.getD i t'.dflt) o).map fun e=>(i<xs.length,.val t e)
  |_=>none
 |_=>none
def splice (cs:List AV) (o:Nat) (ns:List AV):List AV:=cs.take o++ns++cs.drop (o+ns.length)
def storex (lh:Hp) (t:Ty) (x:AV):AV→Option (Prop×Eff)
 | .ptr l o=>match lh l with
  |some (.box T cs)=>match cellsOf lh x with
   |some ns=>if o+ns.length≤cs.length∧ns.length=t.size then some (True,⟨.top,[],some (l,.box T (splice cs o ns))⟩) else none
   |none=>none
  |_=>none
 | .eptr l i o=>match lh l with
  |some (.row e t' xs)=>match rd lh t x with
   |some (d,ls)=>if l∈ls then none else (upd t d t' (xs.getD i t'.dflt) o).map fun y=>(i<xs.length,⟨.top,ls,some (l,.row e t' (xs.set i y))⟩)
   |none=>none
  |_=>none
 |_=>none
def fieldx (off:Nat) (t:Ty):AV→Option AV
 | .val t' d=>if t'.isSt then (proj t t' d off).map (.val t) else none
 | .agg cs=>partOf t cs off
 |_=>none
def faddrx (lh:Hp) (off:Nat) (t:Ty):AV→Option AV
 | .ptr l o=>(lh l).map fun _=>.ptr l (o+off)
 | .eptr l i o=>match lh l with
  |some (.row ..)=>some (.eptr l i (o+off))
  |_=>none
 | .val (.ptr t') d=>(proj t t' d off).map (.val (.ptr t))
 |_=>none
def iaddrx (lh:Hp) (t:Ty) (i:Int):AV→Option (Prop×AV)
 | .own l=>match lh l with
  |some (.row _ t' xs)=>if t'=t then some (0≤i∧i<xs.length,.eptr l i.toNat 0) else none
  |_=>none
 | .val (.sl t') xs=>if t'=t then some (0≤i∧i<xs.length,.val (.ptr t') (xs.getD i.toNat t'.dflt)) else none
 | .arr l n=>match lh l with
  |some (.box _ _)=>if t.size=1 then some (0≤i∧i<n,.ptr l i.toNat) else none
  |_=>none
 |_=>none
def avInt:AV→Option Int
 | .val (.int _) n=>some n
 |_=>none
def avIntK:AV→Option (IntKind×Int)
 | .val (.int k) n=>some (k,n)
 |_=>none
def avBool:AV→Option Bool
 | .val .bool b=>some b
 |_=>none
def extx (i:Nat):AV→Option AV
 | .tup vs=>vs[i]?
 |_=>none
def bounds (lo hi:Bool) (bs:List AV) (n:Int):Option (Int×Int):=
 match bs with
 |[]=>if !lo&& !hi then some (0,n) else none
 |[x]=>if lo&& !hi then (avInt x).map fun l=>(l,n) else if !lo&&hi then (avInt x).map fun h=>(0,h) else none
 |[x,y]=>if lo&&hi then (avInt x).bind fun l=>(avInt y).map fun h=>(l,h) else none
 |_=>none
def slicex (lh:Hp) (t:Ty) (lo hi:Bool) (bs:List AV) (x:AV):Option (Prop×Eff):=
 match rd lh (.sl t) x with
 |some (xs,ls)=>match bounds lo hi bs xs.length with
  |some (l,h)=>some (0≤l∧l≤h∧h≤xs.length,⟨.val (.sl t) ((xs.take h.toNat).drop l.toNat),ls,none⟩)
  |none=>none
 |none=>none
def fillx (lh:Hp):List AV→List (Nat×Ty)→List AV→Option (List AV)
 |cs,[],[]=>some cs
 |cs,(o,t)::ps,a::r=>match cellsOf lh a with
  |some ns=>if ns.length=t.size∧o+ns.length≤cs.length then fillx lh (splice cs o ns) ps r else none
  |none=>none
 |_,_,_=>none
def rowx (lh:Hp) (t:Ty):List t.den→List Nat→List AV→Option (List t.den×List Nat)
 |xs,[],[]=>some (xs,[])
 |xs,i::is,a::r=>if i<xs.length then match rd lh t a with
  |some (d,ls)=>(rowx lh t (xs.set i d) is r).map fun y=>(y.1,ls++y.2)
  |none=>none else none
 |_,_,_=>none
def Ty.scalar:Ty→Bool
 | .bool| .int _| .str| .nil=>true
 | .st t=>t.scalar
 | .cons a b=>a.scalar&&b.scalar
 |_=>false
def findEnt (C:List Ent) (f:FuncId):Option Ent:=C.find? fun e=>e.f==f
def rdCap (lh:Hp):(t:Ty)→List AV→Option (t.den×List Nat)
 | .nil,[]=>some ((),[])
 | .cons a b,x::r=>match rd lh a x with
  |some (d,l)=>match rdCap lh b r with
   |some (e,l')=>some ((d,e),l++l')
   |none=>none
  |none=>none
 |_,_=>none
def rdClo (C:List Ent) (lh:Hp) (t:Ty) (f:FuncId) (cap:List AV):Option (Prop×t.den×List Nat):=
 match findEnt C f with
 |some ⟨_,.cons a (.cons b c),r,false,none,pre,F⟩=>
  match rdCap lh (.cons b c) cap with
  |some (ds,ls)=>(cast? t (.fn a r) fun x=>F (x,ds)).map fun G=>(∀x,pre (x,ds),G,ls)
  |none=>match rdCap lh c cap with
   |some (ds,ls)=>(cast? t (.fn2 a b r) fun x y=>F (x,y,ds)).map fun G=>(∀x y,pre (x,y,ds),G,ls)
   |none=>none
 |some ⟨_,.cons a .nil,r,false,none,pre,F⟩=>
  match cap with
  |[]=>(cast? t (.fn a r) fun x=>F (x,())).map fun G=>(∀x,pre (x,()),G,[])
  |_=>none
 |_=>none
def rdA (C:List Ent) (lh:Hp) (t:Ty):AV→Option (Prop×t.den×List Nat)
 | .clo f cap=>rdClo C lh t f cap
 |a=>(rd lh t a).map fun x=>(True,x.1,x.2)
def rdL (C:List Ent) (lh:Hp):(t:Ty)→List AV→Option (Prop×t.den×List Nat)
 | .nil,[]=>some (True,(),[])
 | .cons a b,x::r=>match rdA C lh a x with
  |some (p,d,l)=>match rdL C lh b r with
   |some (q,e,l')=>some (p∧q,(d,e),l++l')
   |none=>none
  |none=>none
 |_,_=>none
def resAVs:(t:Ty)→t.den→List AV
 | .cons a b,d=>.val a d.1::resAVs b d.2
 |_,_=>[]
def zeroAV:Ty→List AV
 | .st t=>zeroAV t
 | .nil=>[]
 | .cons a b=>zeroAV a++zeroAV b
 | .sl _=>[.cst (.slice none 0 0)]
 | .bool=>scatter .bool Ty.bool.dflt
 | .int k=>scatter (.int k) (Ty.int k).dflt
 | .str=>scatter .str Ty.str.dflt
 | .ptr t=>scatter (.ptr t) (Ty.ptr t).dflt
 | .fn a r=>scatter (.fn a r) (Ty.fn a r).dflt
 | .fn2 a b r=>scatter (.fn2 a b r) (Ty.fn2 a b r).dflt
 | .mp k t=>scatter (.mp k t) (Ty.mp k t).dflt
def nilOf:Nat→Value
 |0=>.pointer none
 |1=>.map none
 |_=>.nilFunc
def freshEff (fr:Nat) (e:TypeId) (ls:List Nat):(t:Ty)→t.den→Option Eff
 | .sl t,xs=>some ⟨.own fr,if t.scalar then [] else ls,some (fr,.row e t xs)⟩
 |_,_=>none
def plainArg (lh:Hp) (l:Nat):AV→Bool
 | .own k=>k !=l&&(match lh k with|some (.row _ _ _)=>true|_=>false)
 | .val t _=>match t with
  | .bool| .int _| .str| .st _=>true
  |_=>false
 | .clo _ _=>true
 |_=>false
def isNilV:Value→Bool
 | .slice none 0 0=>true
 |_=>false
def nilx (lh:Hp) (neg:Bool) (t:Ty):AV→Option AV
 | .cst u=>if isNilV u then some (.val .bool (!neg)) else none
 | .nnl=>some (.val .bool neg)
 |a=>(rd lh (.sl t) a).map fun x=>if neg then .ub True (x.1=[]) else .ub (x.1=[]) True
def nilkx (lh:Hp) (neg:Bool) (t:Ty):AV→Option (Prop×AV)
 | .cst u=>if isNilV u then some (True,.val .bool (!neg)) else none
 | .nnl=>some (True,.val .bool neg)
 |a=>(rd lh (.sl t) a).map fun x=>(x.1≠[],.val .bool neg)
def ownx (C:List Ent) (lh:Hp) (fr:Nat):Ent→List AV→Option (Prop×Eff)
 |⟨_,.cons (.sl t) ar,.sl t',_,some T,pre,F⟩,.own l::rest=>match lh l with
  |some (.row e t'' xs)=>if e=T then match cast? (.sl t) (.sl t'') xs with
   |some ys=>match rdL C lh ar rest with
    |some (p,d,ls)=>if ls.contains l|| !t.scalar|| !t'.scalar|| !rest.all (plainArg lh l) then none else some (p∧pre (ys,d),⟨.own fr,l::ls,some (fr,.row T t' (F (ys,d)))⟩)
    |none=>none
   |none=>none else none
  |_=>none
 |⟨_,.cons (.sl t) ar,.sl t',_,some T,pre,F⟩,.cst u::rest=>if isNilV u then match rdL C lh ar rest with
   |some (p,d,ls)=>if !t.scalar|| !t'.scalar|| !rest.all (plainArg lh fr) then none else some (p∧pre ([],d),⟨.own fr,ls,some (fr,.row T t' (F ([],d)))⟩)
   |none=>none else none
 |_,_=>none
def callx (C:List Ent) (lh:Hp) (fr:Nat) (f:FuncId) (args:List AV):Option (Prop×Eff):=
 match findEnt C f with
 |none=>none
 |some ent=>if ent.own then ownx C lh fr ent args else match rdL C lh ent.a args with
  |none=>none
  |some (p,d,ls)=>match ent.fresh with
   |none=>some (p∧ent.pre d,⟨if ent.many then .tup (resAVs ent.r (ent.F d)) else .val ent.r (ent.F d),if ent.r.scalar then [] else ls,none⟩)
   |some e=>(freshEff fr e ls ent.r (ent.F d)).map fun eff=>(p∧ent.pre d,eff)
def srcx (lh:Hp) (t:Ty):AV→Option (List t.den)
 | .own l=>match lh l with
  |some (.row _ t' xs)=>cast? (.sl t) (.sl t') xs
  |_=>none
 | .val (.sl t') xs=>cast? (.sl t) (.sl t') xs
 | .cst (.slice none 0 0)=>some []
 | .nnl=>some []
 | .sub l lo hi=>match lh l with
  |some (.row _ t' xs)=>(cast? (.sl t) (.sl t') xs).map fun xs=>(xs.take hi).drop lo
  |_=>none
 |_=>none
def oslx (lh:Hp) (t:Ty) (lo hi:Bool) (bs:List AV):AV→Option (Prop×Eff)
 | .own l=>match lh l with
  |some (.row _ t' xs)=>if t'=t then match bounds lo hi bs xs.length with
   |some (a,b)=>some (0≤a∧a≤b∧b≤xs.length,⟨.sub l a.toNat b.toNat,[],none⟩)
   |none=>none else none
  |_=>none
 |_=>none
def slicey (lh:Hp) (t:Ty) (lo hi own:Bool) (bs:List AV) (x:AV):Option (Prop×Eff):=if own then oslx lh t lo hi bs x else slicex lh t lo hi bs x
def copyx (lh:Hp) (e:TypeId) (t:Ty) (d s:AV):Option (Prop×Eff):=
 match srcx lh t s with
 |none=>none
 |some ys=>match d with
  | .own l=>match lh l with
   |some (.row e' t' xs)=>if e'=e then (cast? (.sl t) (.sl t') xs).map fun xs=>(True,⟨.val (.int .i64) ((min ys.length xs.length:Nat):Int),[],some (l,.row e t (ys.take xs.length++xs.drop ys.length))⟩) else none
   |_=>none
  | .sub l lo hi=>match lh l with
   |some (.row e' t' xs)=>if e'=e then (cast? (.sl t) (.sl t') xs).map fun xs=>(True,⟨.val (.int .i64) ((min ys.length (hi-lo):Nat):Int),[],some (l,.row e t (xs.take lo++(ys.take (hi-lo)++xs.drop (lo+min ys.length (hi-lo)))))⟩) else none
   |_=>none
  |_=>none
def clearx (lh:Hp) (e:TypeId) (t:Ty):AV→Option (Prop×Eff)
 | .sub l lo hi=>match lh l with
  |some (.row e' t' xs)=>if e'=e then (cast? (.sl t) (.sl t') xs).map fun xs=>(True,⟨.top,[],some (l,.row e t (xs.take lo++(List.replicate (hi-lo) t.dflt++xs.drop hi)))⟩) else none
  |_=>none
 |_=>none
def appendx (lh:Hp) (fr:Nat) (e:TypeId) (t:Ty) (bytes:Nat) (s x:AV):Option (Prop×Eff):=
 match srcx lh t x with
 |none=>none
 |some ys=>match s with
  | .own l=>match lh l with
   |some (.row e' t' xs)=>if e'=e then (cast? (.sl t) (.sl t') xs).map fun xs=>((xs.length+ys.length)*bytes≤140737488355328,⟨.own fr,[l],some (fr,.row e t (xs++ys))⟩) else none
   |_=>none
  | .cst (.slice none 0 0)=>some (ys.length*bytes≤140737488355328,⟨.own fr,[],some (fr,.row e t ys)⟩)
  |_=>none
def lenx (lh:Hp):Bool→AV→Option Nat
 |false,.own l=>match lh l with
  |some (.row _ _ xs)=>some xs.length
  |_=>none
 |false,.val (.sl _) xs=>some xs.length
 |true,.val .str s=>some s.size
 |false,.cst (.slice none 0 0)=>some 0
 |false,.nnl=>some 0
 |_,_=>none
def pur (av:AV):Eff:=⟨av,[],none⟩
def fn1x (lh:Hp) (a r:Ty) (F:a.den→r.den):List AV→Option (Prop×Eff)
 |[x]=>(rd lh a x).map fun d=>(True,⟨.val r (F d.1),if r.scalar then [] else d.2,none⟩)
 |_=>none
def fn2x (lh:Hp) (a b r:Ty) (F:a.den→b.den→r.den):List AV→Option (Prop×Eff)
 |[x,y]=>(rd lh a x).bind fun d=>(rd lh b y).map fun e=>(True,⟨.val r (F d.1 e.1),if r.scalar then [] else d.2++e.2,none⟩)
 |_=>none
def callvx (C:List Ent) (lh:Hp) (fr:Nat) (args:List AV):AV→Option (Prop×Eff)
 | .clo f cap=>callx C lh fr f (args++cap)
 | .val (.fn a r) F=>fn1x lh a r F args
 | .val (.fn2 a b r) F=>fn2x lh a b r F args
 |_=>none
def minx (mx:Bool) (a b:AV):Option (Prop×Eff):=(avIntK a).bind fun x=>(avIntK b).bind fun y=>
 if x.1=y.1 then some (True,pur (.val (.int x.1) (if mx then (if x.2<y.2 then y.2 else x.2) else (if y.2<x.2 then y.2 else x.2)))) else none
def datC (C:List Ent):List Ent:=C.filter fun e=>e.fresh.isNone
def opx (C:List Ent) (lh:Hp) (fr:Nat):XOp→List AV→Option (Prop×Eff)
 | .mv,[a]=>some (True,pur a)
 | .nilrow e t,[]=>some (True,⟨.own fr,[],some (fr,.row e t [])⟩)
 | .nilck,[a]=>match a with
  | .ptr l o=>(lh l).map fun _=>(True,pur (.ptr l o))
  | .eptr l i o=>match lh l with
   |some (.row ..)=>some (True,pur (.eptr l i o))
   |_=>none
  | .val (.ptr t) d=>some (True,pur (.val (.ptr t) d))
  |_=>none
 | .alloc T t,[]=>some (True,⟨.ptr fr 0,[],some (fr,.box T (zeroAV t))⟩)
 | .allocz T m,[]=>some (True,⟨.ptr fr 0,[],some (fr,.box T [.cst (nilOf m)])⟩)
 | .box T,[a]=>(cellsOf lh a).map fun cs=>(True,⟨.ptr fr 0,[],some (fr,.box T cs)⟩)
 | .load t,[a]=>(loadx lh t a).map fun x=>(x.1,pur x.2)
 | .store t,[a,x]=>storex lh t x a
 | .bin op,[a,b]=>(binx op a b).map fun x=>(x.1,pur x.2)
 | .beq neg t,[a,b]=>(eqx t a b).map fun x=>(True,pur (.val .bool (if neg then !x else x)))
 | .steq neg t,[a,b]=>(eqsx lh t a b).map fun x=>(True,pur (.val .bool (if neg then !x else x)))
 | .mkmap k t,[]=>some (True,⟨.own fr,[],some (fr,.mp k t [])⟩)
 | .mapget k t ok,[a,b]=>match mapOf lh k t a with
  |some (_,xs)=>(keyOf' k b).map fun i=>(True,pur (if ok then .tup [.val t (mget t.dflt xs i),.val .bool (mhas xs i)] else .val t (mget t.dflt xs i)))
  |none=>none
 | .mapset k t,[a,b,x]=>match mapOf lh k t a with
  |some (l,xs)=>match keyOf' k b with
   |some i=>match x with
    | .val t' d=>(cast? t t' d).map fun e=>(True,⟨.top,[],some (l,.mp k t (mset xs i e))⟩)
    |_=>none
   |none=>none
  |none=>none
 | .mapdel k t,[a,b]=>match mapOf lh k t a with
  |some (l,xs)=>(keyOf' k b).map fun i=>(True,⟨.top,[],some (l,.mp k t (mdel xs i))⟩)
  |none=>none
 | .mrange k t,[a]=>(rd lh (.mp k t) a).map fun x=>(True,⟨.ptr fr 0,x.2,some (fr,.it k t x.1 none)⟩)
 | .entry,[a]=>match a with
  | .ptr l 0=>match lh l with
   |some (.it k t _ (some p))=>some (True,pur (.tup [.val (.int k) p.1,.val t p.2]))
   |_=>none
  |_=>none
 | .isnil neg t,[a]=>(nilx lh neg t a).map fun x=>(True,pur x)
 | .isnilk neg t,[a]=>(nilkx lh neg t a).map fun x=>(x.1,pur x.2)
 | .not,[a]=>(avBool a).map fun b=>(True,pur (.val .bool (!b)))
 | .neg,[a]=>(avIntK a).map fun n=>(True,pur (.val (.int n.1) (n.1.wrap (0-n.2))))
 | .conv k,[a]=>(avInt a).map fun n=>(True,pur (.val (.int k) (k.wrap n)))
 | .field off t,[a]=>(fieldx off t a).map fun x=>(True,pur x)
 | .faddr off t,[a]=>(faddrx lh off t a).map fun x=>(True,pur x)
 | .iaddr t,[a,b]=>(avInt b).bind fun i=>(iaddrx lh t i a).map fun x=>(x.1,pur x.2)
 | .slice t lo hi own,x::bs=>slicey lh t lo hi own bs x
 | .mkarr e bytes,[a,b]=>(avInt a).bind fun n=>(avInt b).map fun m=>(0≤n∧m=n∧(bytes:Int)*n≤140737488355328,⟨.arr fr n.toNat,[],some (fr,.box e (List.replicate n.toNat (.cst (.slice none 0 0))))⟩)
 | .mkslice e t bytes,[a,b]=>(avInt a).bind fun n=>(avInt b).map fun m=>(0≤n∧m=n∧(bytes:Int)*n≤140737488355328,⟨.own fr,[],some (fr,.row e t (List.replicate n.toNat t.dflt))⟩)
 | .build t ps,args=>(fillx lh (zeroAV t) ps args).map fun cs=>(True,pur (.agg cs))
 | .nnl e t,[]=>some (True,⟨.nnl,[],some (fr,.row e t [])⟩)
 | .bslice e t n idx,args=>(rowx lh t (List.replicate n t.dflt) idx args).map fun x=>(True,⟨.own fr,x.2,some (fr,.row e t x.1)⟩)
 | .extract i,[a]=>(extx i a).map fun x=>(True,pur x)
 | .call f,args=>callx C lh fr f args
 | .calld f,args=>callx (datC C) lh fr f args
 | .callv,g::args=>callvx C lh fr args g
 | .len str,[a]=>(lenx lh str a).map fun (n:Nat)=>(True,pur (.val (.int .i64) (n:Int)))
 | .append e t bytes,[s,x]=>appendx lh fr e t bytes s x
 | .copy e t,[d,s]=>copyx lh e t d s
 | .clear e t,[d]=>clearx lh e t d
 | .min,[a,b]=>minx false a b
 | .max,[a,b]=>minx true a b
 | .mkfn f,cap=>some (True,pur (.clo f cap))
 | .mkbnd f,vs=>some (True,pur (.bnd f vs))
 |_,_=>none
section
variable (P:Program)
def tyOk (T:TypeId) (t:Ty):Bool:=
 (match P.underlying T with
  |some (.struct _)=>t.isSt
  |some (.array _ _)=>false
  |some _=>!t.isSt&&t.size==1
  |none=>false)&&(P.info? T).map (·.size)==some t.size
def mapOk (T:TypeId) (k:IntKind) (t:Ty):Bool:=match P.underlying T with
 |some (.map K E)=>(match P.underlying K with|some (.int k')=>k'==k|_=>false)&&(match (P.info? E).bind (·.zero),t with
  |some (.bool false),.bool=>true
  |some (.int q n),.int q'=>q==q'&&n==0
  |some (.string s),.str=>s.size==0
  |_,_=>false)
 |_=>false
def eqFs (E:Ty→TypeId→Bool):Ty→List Field→Nat→Bool
 | .nil,fs,_=>fs.isEmpty
 | .cons a b,f::g::fs,o=>f.name != "_" &&f.offset==o&&tyOk P f.type a&&E a f.type&&eqFs E b (g::fs) (o+a.size)
 |t,[f],o=>f.name != "_" &&f.offset==o&&tyOk P f.type t&&E t f.type
 |_,_,_=>false
def eqTy:Nat→Ty→TypeId→Bool
 |0,_,_=>false
 |n+1,t,T=>match t with
  | .bool=>(match P.underlying T with|some .bool=>true|_=>false)
  | .int _=>(match P.underlying T with|some (.int _)=>true|_=>false)
  | .str=>(match P.underlying T with|some .string=>true|_=>false)
  | .st t=>(match P.underlying T with|some (.struct fs)=>!P.stoodInHeld T&&eqFs P (eqTy n) t fs.toList 0|_=>false)
  |_=>false
def zeroOk:(t:Ty)→List Value→Option (List Value)
 | .bool,.bool b::r=>if b=false then some r else none
 | .int k,.int k' n::r=>if k'=k∧n=0 then some r else none
 | .str,.string s::r=>if s=ByteArray.empty then some r else none
 | .sl _,.slice none 0 0::r=>some r
 | .st t,cs=>zeroOk t cs
 | .nil,cs=>some cs
 | .cons a b,cs=>match zeroOk a cs with
  |some r=>zeroOk b r
  |none=>none
 |_,_=>none
def zeroIs (T:TypeId) (t:Ty):Bool:=match P.info? T with
 |some i=>match i.zero with
  |some z=>(match zeroOk t z.cells.toList with|some []=>true|_=>false)
  |none=>false
 |none=>false
def zeroNil (T:TypeId) (m:Nat):Bool:=match P.info? T with
 |some i=>(match i.zero,m with|some (.pointer none),0=>true|some (.map none),1=>true|some .nilFunc,2=>true|_,_=>false)
 |none=>false
def zeroRow (T:TypeId):Bool:=match P.info? T with
 |some i=>(match i.zero with|some (.slice none 0 0)=>true|_=>false)
 |none=>false
def elemOk (T e:TypeId) (t:Ty):Bool:=(match P.underlying T with|some (.slice e')=>e==e'|_=>false)&&(P.info? e).map (·.size)==some t.size
def elemIs (T:TypeId) (t:Ty):Bool:=match P.underlying T with
 |some (.slice e)=>(P.info? e).map (·.size)==some t.size
 |_=>false
def fieldOk (T:TypeId) (f off:Nat) (t:Ty):Bool:=match P.underlying T with
 |some (.struct fs)=>match fs[f]? with
  |some x=>x.offset==off&&tyOk P x.type t&&t.size !=0
  |none=>false
 |_=>false
def partsOk (T:TypeId) (t:Ty):List (Nat×Operand)→List (Nat×Ty)→Bool
 |[],[]=>true
 |(f,_)::r,(off,ty)::s=>fieldOk P T f off ty&&partsOk T t r s
 |_,_=>false
def isNil:Operand→Bool
 | .const (.slice none 0 0)=>true
 |_=>false
def placesOk (T:TypeId):Bool:=match P.underlying T with
 |some (.struct fs)=>(fs.toList.mapM fun f=>(P.info? f.type).map fun i=>(f.offset,i.size)).isSome
 |_=>false
def opChk (o:Op) (x:XOp) (args:List XA):Bool:=
 match x with
 | .mv=>match o,args with
  | .move y,[a]=>opOk y a
  | .assign y,[a]=>opOk y a
  |_,_=>false
 | .nilrow _ _=>match o,args with
  | .move y,[]=>isNil y
  | .assign y,[]=>isNil y
  |_,_=>false
 | .nilck=>match o,args with
  | .nilCheck y,[a]=>opOk y a
  |_,_=>false
 | .pick=>match o,args with
  | .pick c y z,[a,b,d]=>opOk c a&&opOk y b&&opOk z d
  |_,_=>false
 | .alloc T t=>match o,args with
  | .alloc T',[]=>T==T'&&zeroIs P T t
  |_,_=>false
 | .allocz T m=>match o,args with
  | .alloc T',[]=>T==T'&&zeroNil P T m
  |_,_=>false
 | .box T=>match o,args with
  | .box T' y,[a]=>T==T'&&opOk y a
  |_,_=>false
 | .load t=>match o,args with
  | .load T y,[a]=>tyOk P T t&&opOk y a
  |_,_=>false
 | .store t=>match o,args with
  | .store T y z,[a,b]=>tyOk P T t&&opOk y a&&opOk z b
  |_,_=>false
 | .bin op=>match o,args with
  | .binOp op' T y z _,[a,b]=>op==op'&&opOk y a&&opOk z b
  |_,_=>false
 | .beq neg t=>match o,args with
  | .binOp op T y z _,[a,b]=>op==(if neg then .neq else .eql)&&opOk y a&&opOk z b&&(match t,P.underlying T with| .bool,some .bool| .str,some .string=>true|_,_=>false)
  |_,_=>false
 | .steq neg t=>match o,args with
  | .binOp op T y z _,[a,b]=>op==(if neg then .neq else .eql)&&opOk y a&&opOk z b&&t.isSt&&eqTy P 50 t T&& !P.eqGuardType P.depth T
  |_,_=>false
 | .mkmap k t=>match o,args with
  | .makeMap T none,[]=>mapOk P T k t
  |_,_=>false
 | .mapget k t ok=>match o,args with
  | .lookup T x i ok',[a,b]=>opOk x a&&opOk i b&&mapOk P T k t&&ok==ok'
  |_,_=>false
 | .mapset k t=>match o,args with
  | .mapUpdate T m i x,[a,b,c]=>opOk m a&&opOk i b&&opOk x c&&mapOk P T k t
  | .insert T m i x,[a,b,c]=>opOk m a&&opOk i b&&opOk x c&&mapOk P T k t
  |_,_=>false
 | .mapdel k t=>match o,args with
  | .call ⟨.builtin .delete,as',ts⟩,[a,b]=>opsOk as'.toList [a,b]&&(match ts[0]? with|some T=>mapOk P T k t|none=>false)
  |_,_=>false
 | .mrange k t=>match o,args with
  | .range T y,[a]=>opOk y a&&mapOk P T k t
  |_,_=>false
 | .entry=>match o,args with
  | .entry y,[a]=>opOk y a
  |_,_=>false
 | .isnil neg _=>match o,args with
  | .binOp op T y z _,[a]=>op==(if neg then .neq else .eql)&&opOk y a&&isNil z&&(match P.underlying T with|some (.slice _)=>true|_=>false)
  |_,_=>false
 | .isnilk neg _=>match o,args with
  | .binOp op T y z _,[a]=>op==(if neg then .neq else .eql)&&opOk y a&&isNil z&&(match P.underlying T with|some (.slice _)=>true|_=>false)
  |_,_=>false
 | .not=>match o,args with
  | .unOp .not _ y,[a]=>opOk y a
  |_,_=>false
 | .neg=>match o,args with
  | .unOp .neg _ y,[a]=>opOk y a
  |_,_=>false
 | .conv k=>match o,args with
  | .convert S D y,[a]=>opOk y a&&(match P.underlying S with|some (.int _)=>true|_=>false)&&(match P.underlying D with|some (.int k')=>k==k'|_=>false)
  |_,_=>false
 | .field off t=>match o,args with
  | .field T y f,[a]=>opOk y a&&fieldOk P T f off t
  |_,_=>false
 | .faddr off t=>match o,args with
  | .fieldAddr T y f,[a]=>opOk y a&&fieldOk P T f off t
  |_,_=>false
 | .iaddr t=>match o,args with
  | .indexAddr T y z,[a,b]=>opOk y a&&opOk z b&&elemIs P T t
  |_,_=>false
 | .slice t lo hi _=>match o,args with
  | .slice T y none none none,[a]=>!lo&& !hi&&opOk y a&&elemIs P T t
  | .slice T y (some l) none none,[a,b]=>lo&& !hi&&opOk y a&&opOk l b&&elemIs P T t
  | .slice T y none (some h) none,[a,b]=>!lo&&hi&&opOk y a&&opOk h b&&elemIs P T t
  | .slice T y (some l) (some h) none,[a,b,c]=>lo&&hi&&opOk y a&&opOk l b&&opOk h c&&elemIs P T t
  |_,_=>false
 | .mkarr e bytes=>match o,args with
  | .makeSlice T y z,[a,b]=>opOk y a&&opOk z b&&elemOk P T e .bool&&zeroRow P e&&(P.info? e).map (·.bytes)==some bytes&&bytes !=0
  |_,_=>false
 | .mkslice e t bytes=>match o,args with
  | .makeSlice T y z,[a,b]=>opOk y a&&opOk z b&&elemOk P T e t&&zeroIs P e t&&(P.info? e).map (·.bytes)==some bytes&&bytes !=0
  |_,_=>false
 | .build t ps=>match o with
  | .build T parts=>opsOk (parts.toList.map (·.2)) args&&partsOk P T t parts.toList ps&&placesOk P T&&zeroIs P T t&&t.isSt
  |_=>false
 | .nnl e t=>match o,args with
  | .buildSlice T n' parts,[]=>n'==0&&parts.size==0&&elemOk P T e t&&t.size !=0
  |_,_=>false
 | .bslice e t n idx=>match o with
  | .buildSlice T n' parts=>n==n'&&opsOk (parts.toList.map (·.2)) args&&parts.toList.map (·.1)==idx&&elemOk P T e t&&zeroIs P e t&&t.size !=0&&decide (n*t.size≤16777216)
  |_=>false
 | .extract i=>match o,args with
  | .extract y j,[a]=>i==j&&opOk y a
  |_,_=>false
 | .call f=>match o with
  | .call ⟨.value (.func g),as',_⟩=>f==g&&opsOk as'.toList args&&funcOk P f
  |_=>false
 | .calld f=>match o with
  | .call ⟨.value (.func g),as',_⟩=>f==g&&opsOk as'.toList args&&funcOk P f
  |_=>false
 | .callv=>match o,args with
  | .call ⟨.value y,as',_⟩,a::r=>opOk y a&&opsOk as'.toList r
  |_,_=>false
 | .len str=>match o,args with
  | .call ⟨.builtin .len,as',ts⟩,[a]=>opsOk as'.toList [a]&&(match ts[0]? with|some T=>(match P.underlying T with|some (.slice _)=>!str|some .string=>str|_=>false)|none=>false)
  |_,_=>false
 | .append e t bytes=>match o,args with
  | .call ⟨.builtin .append,as',ts⟩,[a,b]=>opsOk as'.toList [a,b]&&(match ts.toList with|[T,T']=>T==T'&&elemOk P T e t|_=>false)&&zeroIs P e t&&(P.info? e).map (·.bytes)==some bytes&&bytes !=0&&t.size !=0
  |_,_=>false
 | .copy e t=>match o,args with
  | .call ⟨.builtin .copy,as',ts⟩,[a,b]=>opsOk as'.toList [a,b]&&(match ts.toList with|[T,T']=>T==T'&&elemOk P T e t|_=>false)&&t.size !=0
  |_,_=>false
 | .clear e t=>match o,args with
  | .call ⟨.builtin .clear,as',ts⟩,[a]=>opsOk as'.toList [a]&&(match ts.toList with|[T]=>elemOk P T e t|_=>false)&&zeroIs P e t&&t.size !=0
  |_,_=>false
 | .min=>match o,args with
  | .call ⟨.builtin .min,as',_⟩,[a,b]=>opsOk as'.toList [a,b]
  |_,_=>false
 | .max=>match o,args with
  | .call ⟨.builtin .max,as',_⟩,[a,b]=>opsOk as'.toList [a,b]
  |_,_=>false
 | .mkfn f=>match o with
  | .makeFunc (.func g) first cap=>f==g&&first.isEmpty&&opsOk cap.toList args&&funcOk P f
  |_=>false
 | .mkbnd f=>match o with
  | .makeFunc (.func g) first cap=>f==g&&cap.isEmpty&&opsOk first.toList args
  |_=>false
end
end T
end Go.Proofs.YtpocfbfmjippnaaGreat
end
section
namespace Go.Proofs.YtpocfbfmjippnaaGreat
open Go.RowKit
namespace T
theorem opOk_eq {y:Operand} {x:XA} (h:opOk y x=true):y=x.opnd∧x.ok:=by
 unfold opOk at h;split at h<;>(try simp only[Bool.and_eq_true,beq_iff_eq,decide_eq_true_eq] at h)<;>(try (cases h;done))
 ·subst h;exact ⟨rfl,trivial⟩
 ·obtain ⟨⟨⟨rfl,rfl⟩,h1⟩,h2⟩:=h;exact ⟨rfl,h1,h2⟩
 ·subst h;exact ⟨rfl,trivial⟩
 ·obtain ⟨rfl,h1⟩:=h;exact ⟨rfl,h1⟩
 ·exact ⟨rfl,trivial⟩
 ·exact ⟨rfl,trivial⟩
 ·exact ⟨rfl,trivial⟩
 ·subst h;exact ⟨rfl,trivial⟩
theorem opsOk_eq:∀{ys:List Operand} {xs:List XA},opsOk ys xs=true→ys=xs.map XA.opnd
 |[],[],_=>rfl
 |y::ys,x::xs,h=>by
  simp only[opsOk,Bool.and_eq_true] at h;rw[List.map_cons,←(opOk_eq h.1).1,←opsOk_eq h.2]
 |[],_::_,h=>by simp[opsOk] at h
 |_::_,[],h=>by simp[opsOk] at h
section
variable {P:Program} {B:Nat} {M:Nat→Prop} {hp lh:Hp} {ψ:Nat→Value} {w w':World} {fr:Nat} {C:List Ent} {o:Oper} {a:Act}
theorem avr1 {hp:Hp} {M:Nat→Prop} {x:AV} {vs:List Value} (h:AVRs P hp ψ w M [x] vs):∃v,vs=[v]∧AVR P hp ψ w M x v:=by
 obtain ⟨v,r,rfl,q,rfl⟩:=h;exact ⟨v,rfl,q⟩
theorem avr2 {hp:Hp} {M:Nat→Prop} {x y:AV} {vs:List Value} (h:AVRs P hp ψ w M [x,y] vs):∃v u,vs=[v,u]∧AVR P hp ψ w M x v∧AVR P hp ψ w M y u:=by
 obtain ⟨v,r,rfl,q,u,s,rfl,q',rfl⟩:=h;exact ⟨v,u,rfl,q,q'⟩
theorem avr_int {hp:Hp} {M:Nat→Prop} {k:IntKind} {n:Int} {v:Value} (h:AVR P hp ψ w M (.val (.int k) n) v):v= .int k n∧k.min≤n∧n≤k.max:=by
 have:=(RdV.one (t:=.int k) h rfl rfl).1;exact ⟨by simpa using this.1,this.2⟩
theorem avr_bool {hp:Hp} {M:Nat→Prop} {b:Bool} {v:Value} (h:AVR P hp ψ w M (.val .bool b) v):v= .bool b:=by
 have:=(RdV.one (t:=.bool) h rfl rfl).1;simpa [Rd] using this
theorem avr_str {hp:Hp} {M:Nat→Prop} {b:ByteArray} {v:Value} (h:AVR P hp ψ w M (.val .str b) v):v= .string b:=by
 have:=(RdV.one (t:=.str) h rfl rfl).1;simpa using this.1
theorem int_avr {hp:Hp} {M:Nat→Prop} {k:IntKind} {n:Int} (h:k.min≤n∧n≤k.max):AVR P hp ψ w M (.val (.int k) n) (.int k n):=
 ⟨by unfold Ty.shape Ty.isSt;simp,rfl,h.1,h.2⟩
theorem bool_avr {hp:Hp} {M:Nat→Prop} {b:Bool}:AVR P hp ψ w M (.val .bool b) (.bool b):=
 ⟨by unfold Ty.shape Ty.isSt;simp,rfl⟩
theorem wrap_range (k:IntKind) (n:Int):k.min≤k.wrap n∧k.wrap n≤k.max:=by
 cases k<;>simp only[IntKind.min,IntKind.max,IntKind.wrap,IntKind.signed,IntKind.bits]<;>(simp;first|omega|(split<;>omega))
theorem tmod_range (k:IntKind) {x:Int} (y:Int) (h:k.min≤x∧x≤k.max):k.min≤x.tmod y∧x.tmod y≤k.max:=by
 have h0:k.min≤0∧0≤k.max:=by cases k<;>decide
 rcases Int.le_total 0 x with c|c
 ·have h1:=Int.tmod_nonneg y c;have h2:x.tmod y≤x:=by
   have:=Int.natAbs_tmod x y;have:=Nat.mod_le x.natAbs y.natAbs;omega
  omega
 ·have h1:x.tmod y≤0:=by
   have:=Int.tmod_nonneg y (show (0:Int)≤ -x by omega);rw[Int.neg_tmod] at this;omega
  have h2:x≤x.tmod y:=by
   have:=Int.natAbs_tmod x y;have:=Nat.mod_le x.natAbs y.natAbs;omega
  omega
theorem fdiv_range (k:IntKind) {x:Int} (n:Nat) (h:k.min≤x∧x≤k.max):k.min≤x.fdiv (2^n)∧x.fdiv (2^n)≤k.max:=by
 have h0:k.min≤0∧0≤k.max:=by cases k<;>decide
 have hp:(0:Int)<2^n:=Int.pow_pos (by decide);rw[Int.fdiv_eq_ediv_of_nonneg _ (Int.le_of_lt hp)];rcases Int.le_total 0 x with c|c
 ·have h1:0≤x / 2^n:=Int.ediv_nonneg c (Int.le_of_lt hp);have h2:x / 2^n≤x:=Int.ediv_le_self _ c;omega
 ·have h1:x / 2^n≤0:=Int.ediv_nonpos_of_nonpos_of_neg c hp;have h2:x≤x / 2^n:=by
   rw[Int.le_ediv_iff_mul_le hp];have h1:(1:Int)≤2^n:=hp;have:=Int.mul_le_mul_of_nonpos_left c h1;simpa using this
  omega
theorem intBin_ok {op:BinOp} {T:TypeId} {X Y:Operand} {yt:TypeId} {k:IntKind} {x y:Int} {p:Prop} {av:AV} (ho:o.op= .binOp op T X Y yt) (hX:a.eval X= .int k x) (hY:a.eval Y= .int k y)
  (hx:k.min≤x∧x≤k.max) (h:intBin op k x y=some (p,av)) (hp':p) (c:Ctx P B M hp ψ w fr):Does P o a w (OpPost P B M hp ψ w fr (pur av)):=by
 have key:∀v,AVR P hp ψ w (Mu M hp ψ) av v→(execOp a.eval o).run P w= .ok (.value v) w→Does P o a w (OpPost P B M hp ψ w fr (pur av)):=fun v h1 h2=>does_run h2 (c.pure h1)
 cases op<;>simp only[intBin,Option.some.injEq,Prod.mk.injEq,reduceCtorEq] at h<;>obtain ⟨rfl,rfl⟩:=h
 case quo=>refine key _ (int_avr (wrap_range _ _)) ?_;unfold execOp;simp[ho,hX,hY,binOp,eqGuard,Op.intDiv,hp']
 case rem=>refine key _ (int_avr (tmod_range _ _ hx)) ?_;unfold execOp;simp[ho,hX,hY,binOp,eqGuard,Op.intDiv,hp']
 case add=>refine key _ (int_avr (wrap_range _ _)) ?_;unfold execOp;simp[ho,hX,hY,binOp,eqGuard,Op.intArith]
 case sub=>refine key _ (int_avr (wrap_range _ _)) ?_;unfold execOp;simp[ho,hX,hY,binOp,eqGuard,Op.intArith]
 case mul=>refine key _ (int_avr (wrap_range _ _)) ?_;unfold execOp;simp[ho,hX,hY,binOp,eqGuard,Op.intArith]
 case and=>refine key _ (int_avr (wrap_range _ _)) ?_;unfold execOp;simp[ho,hX,hY,binOp,eqGuard,Op.intBits]
 case or=>refine key _ (int_avr (wrap_range _ _)) ?_;unfold execOp;simp[ho,hX,hY,binOp,eqGuard,Op.intBits]
 case xor=>refine key _ (int_avr (wrap_range _ _)) ?_;unfold execOp;simp[ho,hX,hY,binOp,eqGuard,Op.intBits]
 case andNot=>refine key _ (int_avr (wrap_range _ _)) ?_;unfold execOp;simp[ho,hX,hY,binOp,eqGuard,Op.intBits]
 all_goals (refine key _ bool_avr ?_;unfold execOp;simp[ho,hX,hY,binOp,eqGuard,Op.intCmp])
theorem bin_ok {op:BinOp} {T:TypeId} {X Y:Operand} {yt:TypeId} {x y:AV} {p:Prop} {av:AV} (ho:o.op= .binOp op T X Y yt)
  (hX:AVR P hp ψ w (Mu M hp ψ) x (a.eval X)) (hY:AVR P hp ψ w (Mu M hp ψ) y (a.eval Y)) (h:binx op x y=some (p,av)) (hp':p) (c:Ctx P B M hp ψ w fr):Does P o a w (OpPost P B M hp ψ w fr (pur av)):=by
 unfold binx at h
 split at h
 ·rename_i k x k' y
  obtain ⟨e1,r1⟩:=avr_int hX
  obtain ⟨e2,r2⟩:=avr_int hY
  split at h
  ·simp only[Option.some.injEq,Prod.mk.injEq] at h
   obtain ⟨rfl,rfl⟩:=h
   refine does_run ?_ (c.pure (int_avr (wrap_range _ _)))
   unfold execOp;simp[ho,e1,e2,binOp,eqGuard,Op.shift,Int.not_lt.2 hp']
  ·simp only[Option.some.injEq,Prod.mk.injEq] at h
   obtain ⟨rfl,rfl⟩:=h
   refine does_run ?_ (c.pure (int_avr (fdiv_range _ _ r1)))
   unfold execOp;simp[ho,e1,e2,binOp,eqGuard,Op.shift,Int.not_lt.2 hp']
  ·split at h
   ·rename_i ek;subst ek
    exact intBin_ok ho e1 e2 r1 h hp' c
   ·cases h
 ·cases h
theorem beq_ok {op:BinOp} {neg:Bool} {t:Ty} {T:TypeId} {X Y:Operand} {yt:TypeId} {x y:AV} {b:Bool} (ho:o.op= .binOp op T X Y yt) (hop:op=if neg then .neq else .eql)
  (hT:(match t,P.underlying T with| .bool,some .bool| .str,some .string=>true|_,_=>false)=true)
  (hX:AVR P hp ψ w (Mu M hp ψ) x (a.eval X)) (hY:AVR P hp ψ w (Mu M hp ψ) y (a.eval Y)) (h:eqx t x y=some b) (c:Ctx P B M hp ψ w fr):Does P o a w (OpPost P B M hp ψ w fr (pur (.val .bool (if neg then !b else b)))):=by
 subst hop
 unfold eqx at h
 split at h
 ·rename_i x y
  have e1:=avr_bool hX
  have e2:=avr_bool hY
  injection h with h;subst h
  refine does_run ?_ (c.pure bool_avr)
  split at hT
  ·rename_i hu
   have he:(Op.equal T (.bool x) (.bool y)).run P w= .ok (x==y) w:=by
    unfold Op.equal Op.maxDepth;rw[show (10000:Nat)=9999+1 from rfl,Op.equalIn];simp[run_underlying hu]
   cases neg<;>(unfold execOp;simp only[ho,e1,e2,binOp,eqGuard,if_true,if_false,Bool.false_eq_true];simp[he])
  ·rename_i q _;cases q
  ·cases hT
 ·rename_i x y
  have e1:=avr_str hX
  have e2:=avr_str hY
  injection h with h;subst h
  refine does_run ?_ (c.pure bool_avr)
  cases neg<;>(unfold execOp;simp[ho,e1,e2,binOp,eqGuard,Op.stringOp];try rfl)
 ·cases h
end
end T
end Go.Proofs.YtpocfbfmjippnaaGreat
end
section
namespace Go.Proofs.YtpocfbfmjippnaaGreat
open Go.RowKit
namespace T
section
variable {P:Program} {B:Nat} {M:Nat→Prop} {hp lh:Hp} {ψ:Nat→Value} {w w':World} {fr:Nat} {C:List Ent} {o:Oper} {a:Act}
theorem tyOk_st {T:TypeId} {t:Ty} (h:tyOk P T t=true) (hs:t.isSt=true):∃fs,P.underlying T=some (.struct fs)∧(P.info? T).map (·.size)=some t.size:=by
 unfold tyOk at h;simp only[Bool.and_eq_true,beq_iff_eq] at h;obtain ⟨h1,h2⟩:=h;cases hu:P.underlying T with
 |none=>rw[hu] at h1;cases h1
 |some d=>
  rw[hu] at h1;cases d<;>simp[hs] at h1;exact ⟨_,rfl,h2⟩
theorem tyOk_one {T:TypeId} {t:Ty} (h:tyOk P T t=true) (hs:t.isSt=false):t.size=1∧(isAgg T).run P w= .ok false w∧(P.info? T).map (·.size)=some 1:=by
 unfold tyOk at h;simp only[Bool.and_eq_true,beq_iff_eq] at h;obtain ⟨h1,h2⟩:=h;cases hu:P.underlying T with
 |none=>rw[hu] at h1;cases h1
 |some d=>
  rw[hu] at h1;cases d<;>simp[hs] at h1<;>refine ⟨h1,?_,by rw[h2,h1]⟩<;>simp[isAgg,run_underlying hu]
theorem tyOk_size {T:TypeId} {t:Ty} (h:tyOk P T t=true):(P.info? T).map (·.size)=some t.size:=by
 unfold tyOk at h;simp only[Bool.and_eq_true,beq_iff_eq] at h;exact h.2
theorem shape_agg {t:Ty} (h:t.isSt=true) {cs:Array Value}:t.shape (.agg cs):=by unfold Ty.shape;simp[h]
theorem cells_one {v:Value} (hv:v.oneCell'=true):v.cells= #[v]:=by cases v<;>simp_all [Value.cells,Value.oneCell']
theorem load_rd {T:TypeId} {t:Ty} {M':Nat→Prop} (h:tyOk P T t=true) {b off:Nat} {cc:List Value} (hc:CellsAt w b off cc) {d:t.den} (q:Rd P t w M' d cc):
  ∃u,(Instr.loadAt T (.pointer (some ⟨b,off,none⟩))).run P w= .ok u w∧RdV P t w M' d u:=by
 cases hs:t.isSt with
 |true=>
  obtain ⟨fs,hu,hi⟩:=tyOk_st h hs
  refine ⟨_,run_loadAt_mid w b off T cc _ hc hu rfl (by rw[hi,q.len]),shape_agg hs,by simpa [Value.cells] using q⟩
 |false=>
  obtain ⟨h1,h2,h3⟩:=tyOk_one (w:=w) h hs
  obtain ⟨u,rfl,hr⟩:=q.cell h1 hs
  refine ⟨u,?_,hr⟩
  have hcell:w.cell? ⟨b,off,none⟩=some u:=by simpa using hc 0 u rfl
  simp[Instr.loadAt,Instr.sureAddr,loadVar,h2,hcell]
theorem own_cells {e:TypeId} {s g n cap m:Nat} {cells:List Value} (h:w.ownsRow B e s (.slice (some ⟨g,0,none⟩) n cap) m cells):CellsAt w g 0 cells:=by
 intro j v hj;rw[Nat.zero_add];have:=h.cells (g:=g) rfl j v hj;rwa [Addr.add_mid,Nat.zero_add] at this
theorem avr_ptr {hp:Hp} {M':Nat→Prop} {t:Ty} {d:t.den} {v:Value} (h:AVR P hp ψ w M' (.val (.ptr t) d) v):
  ∃b off cc,v= .pointer (some ⟨b,off,none⟩)∧b<w.heap.size∧¬M' b∧CellsAt w b off cc∧Rd P t w M' d cc:=by
 obtain ⟨b,off,cc,e,q⟩:=(RdV.one (t:=.ptr t) h rfl rfl).1
 exact ⟨b,off,cc,by simpa using e,q⟩
theorem partOf_ok {T:TypeId} {t:Ty} {M':Nat→Prop} (h:tyOk P T t=true) {cs:List AV} {off:Nat} {av:AV} (hpt:partOf t cs off=some av) {cells:List Value} (hq:AVRs P hp ψ w M' cs cells) (h1:∀u∈cells,u.oneCell'=true):
  ∃cc,(∃pre post,cells=pre++cc++post∧pre.length=off)∧cc.length=t.size∧(t.isSt=true→AVR P hp ψ w M' av (.agg cc.toArray))∧(t.isSt=false→∃u,cc=[u]∧AVR P hp ψ w M' av u):=by
 unfold partOf at hpt
 have hl:=hq.len
 cases hs:t.isSt with
 |true=>
  rw[hs] at hpt
  simp only[if_true] at hpt
  split at hpt
  ·rename_i hle
   injection hpt with hpt;subst hpt
   refine ⟨(cells.drop off).take t.size,⟨cells.take off,(cells.drop off).drop t.size,by rw[List.append_assoc,List.take_append_drop,List.take_append_drop],by simp;omega⟩,by simp;omega,fun _=>⟨_,rfl,?_,?_⟩,fun h=>by cases h⟩
   ·simpa using (hq.drop off).take t.size
   ·intro u hu
    simp only[List.mem_toArray,List.toList_toArray] at hu
    exact h1 u (List.mem_of_mem_drop (List.mem_of_mem_take hu))
  ·cases hpt
 |false=>
  rw[hs] at hpt
  simp only[Bool.false_eq_true,if_false] at hpt
  obtain ⟨u,hu,hr⟩:=hq.at hpt
  have hlt:=(List.getElem?_eq_some_iff.1 hu).1
  have hget:=(List.getElem?_eq_some_iff.1 hu).2
  refine ⟨[u],⟨cells.take off,cells.drop (off+1),?_,by simp;omega⟩,by rw[(tyOk_one (w:=w) h hs).1];rfl,(fun h=>by cases h),fun _=>⟨u,rfl,hr⟩⟩
  rw[←hget];simp
theorem box_cells {cells:Array Value} {b:Nat} {T:TypeId} {fz:Nat×Nat} (hg:w.heap[b]?=some (.cells cells T fz)) {pre cc post:List Value} (e:cells.toList=pre++cc++post):CellsAt w b pre.length cc:=by
 intro j v hj;unfold World.cell?;simp only[hg];have hlt:=(List.getElem?_eq_some_iff.1 hj).1;have:cells.toList[pre.length+j]?=some v:=by
  rw[e,List.append_assoc,List.getElem?_append_right (by omega),List.getElem?_append_left (by omega)];simpa using hj
 simpa using this
theorem load_ok {T:TypeId} {t:Ty} {X:Operand} {x:AV} {p:Prop} {av:AV} (ho:o.op= .load T X) (hT:tyOk P T t=true) (hlh:∀l ob,lh l=some ob→hp l=some ob)
  (hX:AVR P hp ψ w (Mu M hp ψ) x (a.eval X)) (h:loadx lh t x=some (p,av)) (hp':p) (c:Ctx P B M hp ψ w fr):Does P o a w (OpPost P B M hp ψ w fr (pur av)):=by
 have fin:∀b off cc,a.eval X= .pointer (some ⟨b,off,none⟩)→CellsAt w b off cc→∀d:t.den,Rd P t w (Mu M hp ψ) d cc→av= .val t d→Does P o a w (OpPost P B M hp ψ w fr (pur av)):=by
  intro b off cc e hc d q hav;subst hav;obtain ⟨u,hr,hu⟩:=load_rd hT hc q;refine does_run ?_ (c.pure hu);unfold execOp;simp only[ho,e];simp[hr]
 unfold loadx at h
 split at h
 ·rename_i l off
  split at h
  ·rename_i T' cs hl
   obtain ⟨c',hc',e⟩:=Option.map_eq_some_iff.1 h
   simp only[Prod.mk.injEq] at e
   obtain ⟨rfl,rfl⟩:=e
   have hl':=hlh _ _ hl
   obtain ⟨b,cells,e1,hB,hg,q,q1⟩:=c.hok.ob l _ hl'
   obtain ⟨b',e2,e3⟩:=hX _ hl'
   rw[e1] at e2
   simp only[Value.pointer.injEq,Option.some.injEq,Addr.mk.injEq,and_true] at e2
   subst e2
   obtain ⟨cc,⟨pre,post,k1,k2⟩,k3,k4,k5⟩:=partOf_ok hT hc' q q1
   subst k2
   have hcell:=box_cells hg k1
   cases hs:t.isSt with
   |true=>
    obtain ⟨fs,hu,hi⟩:=tyOk_st hT hs
    refine does_run ?_ (c.pure (k4 hs))
    unfold execOp;simp only[ho,e3]
    simp[run_loadAt_mid w b pre.length T cc _ hcell hu rfl (by rw[hi,k3])]
   |false=>
    obtain ⟨u,rfl,hr⟩:=k5 hs
    obtain ⟨h1,h2,h3⟩:=tyOk_one (w:=w) hT hs
    refine does_run ?_ (c.pure hr)
    have hcell':w.cell? ⟨b,pre.length,none⟩=some u:=by simpa using hcell 0 u rfl
    unfold execOp;simp only[ho,e3]
    simp[Instr.loadAt,Instr.sureAddr,loadVar,h2,hcell']
  ·cases h
 ·rename_i t' d
  obtain ⟨e',he',e⟩:=Option.map_eq_some_iff.1 h
  simp only[Prod.mk.injEq] at e
  obtain ⟨rfl,rfl⟩:=e
  obtain ⟨b,off,cc,e1,_,_,hc,q⟩:=avr_ptr hX
  exact fin b off cc e1 hc e' (cast?_rd he' q) rfl
 ·rename_i l i off
  split at h
  ·rename_i e t' xs hl
   obtain ⟨e',he',e⟩:=Option.map_eq_some_iff.1 h
   simp only[Prod.mk.injEq] at e
   obtain ⟨rfl,rfl⟩:=e
   have hl':=hlh _ _ hl
   obtain ⟨cells,hown,hrow⟩:=c.hok.ob l _ hl'
   obtain ⟨g,n,cp,e1,e2⟩:=hX _ _ _ hl'
   rw[e1] at hown
   obtain ⟨c1,cc,c2,rfl,r1,r2,r3⟩:=hrow.at hp'
   rw[List.getD_eq_getElem?_getD,List.getElem?_eq_getElem hp',Option.getD_some] at he'
   obtain ⟨k1,k,k2,rfl,hk,hr⟩:=proj_rd r2 he'
   have hlen:c1.length=i*t'.size:=by rw[RowsBy.len (fun _ _ q=>q.len) r1,List.length_take,Nat.min_eq_left (Nat.le_of_lt hp')]
   refine fin g _ k e2 ?_ e' hr rfl
   have:=own_cells hown
   rw[←hlen,←hk]
   have h3:=this.left.right.left.right
   rwa [Nat.zero_add] at h3
  ·cases h
 ·cases h
theorem cellsOf_locs {x:AV} {ns:List AV} (h:cellsOf lh x=some ns) {z:Nat} (hz:z∉x.locs):z∉AV.locsL ns:=by
 have hsc:∀(t:Ty) (d:t.den),AV.locsL (scatter t d)=[]:=by
  intro t;induction t with
  |st t ih=>intro d;exact ih d
  |cons a b iha ihb=>
   intro d;have happ:∀x y:List AV,AV.locsL (x++y)=AV.locsL x++AV.locsL y:=by
    intro x y;induction x with
    |nil=>rfl
    |cons z r ih=>simp[AV.locsL,ih]
   simp[scatter,happ,iha,ihb]
  |_=>intros;rfl
 unfold cellsOf at h;split at h
 ·injection h with h;subst h;simpa [AV.locs] using hz
 ·injection h with h;subst h;rw[hsc];simp
 ·obtain ⟨_,_,rfl⟩:=Option.map_eq_some_iff.1 h;simpa [AV.locs,AV.locsL] using hz
 ·obtain ⟨_,_,rfl⟩:=Option.map_eq_some_iff.1 h;simpa [AV.locs,AV.locsL] using hz
 ·obtain ⟨_,_,rfl⟩:=Option.map_eq_some_iff.1 h;simpa [AV.locs,AV.locsL] using hz
 ·injection h with h;subst h;simp[AV.locs,AV.locsL]
 ·injection h with h;subst h;simpa [AV.locs,AV.locsL] using hz
 ·injection h with h;subst h;simp[AV.locs,AV.locsL]
 ·cases h
theorem cellsOf_ok (h0:HOK P B M hp ψ w) (hlh:∀l ob,lh l=some ob→hp l=some ob) {x:AV} {ns:List AV} (h:cellsOf lh x=some ns) {v:Value} (hX:AVR P hp ψ w (Mu M hp ψ) x v):
  AVRs P hp ψ w (Mu M hp ψ) ns v.cells.toList∧∀u∈v.cells.toList,u.oneCell'=true:=by
 have fin:∀av,AVR P hp ψ w (Mu M hp ψ) av v→v.oneCell'=true→AVRs P hp ψ w (Mu M hp ψ) [av] v.cells.toList∧∀u∈v.cells.toList,u.oneCell'=true:=by
  intro av q h1;rw[cells_one h1];exact ⟨⟨v,[],rfl,q,rfl⟩,by intro u hu;simp at hu;subst hu;exact h1⟩
 unfold cellsOf at h
 split at h
 ·injection h with h;subst h
  obtain ⟨us,rfl,q,q1⟩:=hX
  exact ⟨q,q1⟩
 ·injection h with h;subst h
  exact ⟨scatter_r hX.2,hX.2.one⟩
 ·rename_i l
  obtain ⟨ob,hl,rfl⟩:=Option.map_eq_some_iff.1 h
  refine fin _ hX ?_
  have hl':=hlh _ _ hl
  rw[hX _ hl']
  cases ob with
  |box T cs=>obtain ⟨b,cells,e,_⟩:=h0.ob l _ hl';rw[e];rfl
  |row e t xs=>
   obtain ⟨cells,h1,_⟩:=h0.ob l _ hl'
   rcases h1.2 with ⟨e,_⟩|⟨g,cap,cur,e,_⟩<;>(rw[e];rfl)
  |mp k t xs=>obtain ⟨b,es,clock,e,_⟩:=h0.ob l _ hl';rw[e];rfl
  |lp bs r=>obtain ⟨b,e,_⟩:=h0.ob l _ hl';rw[e];rfl
  |it k t left cur=>obtain ⟨b,e,_⟩:=h0.ob l _ hl';rw[e];rfl
 ·rename_i l o'
  obtain ⟨ob,hl,rfl⟩:=Option.map_eq_some_iff.1 h
  refine fin _ hX ?_
  obtain ⟨b,_,e⟩:=hX _ (hlh _ _ hl)
  rw[e];rfl
 ·rename_i l o'
  obtain ⟨ob,hl,rfl⟩:=Option.map_eq_some_iff.1 h
  refine fin _ hX ?_
  obtain ⟨b,_,_,e,_⟩:=hX _ (hlh _ _ hl)
  rw[e];rfl
 ·injection h with h;subst h
  refine fin _ hX ?_
  obtain ⟨A,e⟩:=hX
  rw[e];rfl
 ·injection h with h;subst h
  refine fin _ hX ?_
  obtain ⟨us,e,_⟩:=hX
  rw[e];rfl
 ·injection h with h;subst h
  refine fin _ hX ?_
  obtain rfl:v=_:=hX
  rfl
 ·cases h
theorem run_store_at {g off:Nat} {cur:Array Value} {T T0:TypeId} {v:Value} (hg:w.heap[g]?=some (.cells cur T0 (0,0))) (hsz:(P.info? T).map (·.size)=some v.cells.size) (hfit:off+v.cells.size≤cur.size)
  (h1:∀u∈v.cells.toList,u.oneCell'=true):
  (Instr.storeAt T (.pointer (some ⟨g,off,none⟩)) v).run P w= .ok () (w.setRow g (cur.toList.take off++v.cells.toList++cur.toList.drop (off+v.cells.size)).toArray):=by
 have:=run_storeCells_at (P:=P) g off T0 v.cells.toList 0 cur w hg (by simpa using hfit) h1
 simp only[Nat.add_zero,Array.length_toList] at this
 cases hq:P.info? T with
 |none=>simp[hq] at hsz
 |some i=>
  have hs:v.cells.size=i.size:=by simp[hq] at hsz;omega
  simp only[Instr.storeAt,Instr.sureAddr,storeVar,sizeOf,typeInfo,Sem.run_bind,Sem.run_pure,Result.andThen_ok,run_program,hq]
  simp[hs]
  rw[←hs]
  simpa using this
theorem put_kind {ks:List Nat} {l:Nat} {ob ob0:OB} (hl:hp l=some ob0) (hk:ob0.like ob):∀x ob',x≠fr→putHp (T.kill hp ks) l ob x=some ob'→∃ob,hp x=some ob∧ob.like ob':=by
 intro x ob' _ h;by_cases e:x=l
 ·subst e;rw[putHp_same] at h;injection h with h;subst h;exact ⟨ob0,hl,hk⟩
 ·rw[putHp_other _ _ e] at h;exact ⟨ob',(kill_some h).2,like_refl _⟩
theorem splice_r {M':Nat→Prop} {cs ns:List AV} {cells us:List Value} {off:Nat} (h:AVRs P hp ψ w M' cs cells) (h':AVRs P hp ψ w M' ns us):AVRs P hp ψ w M' (splice cs off ns) (cells.take off++us++cells.drop (off+us.length)):=by
 unfold splice;rw[h'.len];exact ((h.take off).append h').append (h.drop _)
theorem RowsBy.set {α:Type} {R:α→List Value→Prop} {xs:List α} {i:Nat} {y:α} {c1 c c2:List Value} (hi:i<xs.length) (h1:RowsBy R (xs.take i) c1) (h2:R y c) (h3:RowsBy R (xs.drop (i+1)) c2):RowsBy R (xs.set i y) (c1++c++c2):=by
 rw[List.set_eq_take_append_cons_drop,if_pos hi,List.append_assoc];exact h1.append ⟨c,c2,rfl,h2,h3⟩
theorem store_ok {T:TypeId} {t:Ty} {X Y:Operand} {x y:AV} {p:Prop} {eff:Eff} (ho:o.op= .store T X Y) (hT:tyOk P T t=true) (hlh:∀l ob,lh l=some ob→hp l=some ob)
  (hX:AVR P hp ψ w (Mu M hp ψ) x (a.eval X)) (hY:AVR P hp ψ w (Mu M hp ψ) y (a.eval Y)) (hfy:fr∉y.locs) (h:storex lh t y x=some (p,eff)) (hp':p) (c:Ctx P B M hp ψ w fr):Does P o a w (OpPost P B M hp ψ w fr eff):=by
 unfold storex at h
 split at h
 ·rename_i l off
  split at h
  ·rename_i T' cs hl
   split at h
   ·rename_i ns hns
    split at h
    ·rename_i hle
     simp only[Option.some.injEq,Prod.mk.injEq] at h
     obtain ⟨rfl,rfl⟩:=h
     have hl':=hlh _ _ hl
     obtain ⟨b,cells,e1,hB,hg,q,q1⟩:=c.hok.ob l _ hl'
     obtain ⟨b',e2,e3⟩:=hX _ hl'
     rw[e1] at e2
     simp only[Value.pointer.injEq,Option.some.injEq,Addr.mk.injEq,and_true] at e2
     subst e2
     obtain ⟨n1,n2⟩:=cellsOf_ok c.hok hlh hns hY
     have hlen:(a.eval Y).cells.size=ns.length:=by have:=n1.len;simpa using this
     have hcl:cells.size=cs.length:=by have:=q.len;simpa using this
     refine does_skip (w':=w.setRow b (cells.toList.take off++(a.eval Y).cells.toList++cells.toList.drop (off+(a.eval Y).cells.size)).toArray) ?_ ?_
     ·unfold execOp;simp only[ho,e3]
      simp[run_store_at hg (by rw[tyOk_size hT,hlen,hle.2]) (by rw[hlen,hcl];exact hle.1) n2]
     ·refine c.write hl' trivial (by simp) rfl rfl rfl (by simp) (fun k hk hne=>setRow_other _ _ _ _ (fun e=>hne (by rw[e1,e];rfl))) (fun hlt=>?_) (fun _=>trivial)
      refine ⟨b,_,e1,hB,setRow_heap w b cells _ _ _ hg,?_,?_⟩
      ·have hk:=put_kind (fr:=fr) (ks:=[]) hl' (ob:=.box T' (splice cs off ns)) trivial
       have hlen':(a.eval Y).cells.size=(a.eval Y).cells.toList.length:=by simp
       rw[List.toList_toArray,hlen']
       exact splice_r (AVRs.later hlt (fun _ _=>rfl) hk (c.obs l _ hl') q) (AVRs.later hlt (fun _ _=>rfl) hk (cellsOf_locs hns hfy) n1)
      ·intro u hu
       simp only[List.toList_toArray,List.mem_append] at hu
       rcases hu with (hu|hu)|hu
       ·exact q1 u (List.mem_of_mem_take hu)
       ·exact n2 u hu
       ·exact q1 u (List.mem_of_mem_drop hu)
    ·cases h
   ·cases h
  ·cases h
 ·rename_i l i off
  split at h
  ·rename_i e t' xs hl
   split at h
   ·rename_i d ls hrd
    split at h
    ·cases h
    ·rename_i hnl
     obtain ⟨y',hy',e'⟩:=Option.map_eq_some_iff.1 h
     simp only[Prod.mk.injEq] at e'
     obtain ⟨rfl,rfl⟩:=e'
     have hl':=hlh _ _ hl
     obtain ⟨cells,hown,hrow⟩:=c.hok.ob l _ hl'
     obtain ⟨g,n,cp,e1,e2⟩:=hX _ _ _ hl'
     have hown':=hown
     rw[e1] at hown'
     have hY':=rd_ok c.hok hlh hrd hY (ls':=ls) (fun _ h=>h)
     rw[List.getD_eq_getElem?_getD,List.getElem?_eq_getElem hp',Option.getD_some] at hy'
     obtain ⟨c1,cc,c2,hcells,r1,r2,r3⟩:=hrow.at hp'
     have r2':=r2.kill c.hok ls
     obtain ⟨k1,k,k2,rfl,hk,hk',hr⟩:=upd_rd hY'.2 r2' hy'
     rcases hown'.2 with ⟨q,_⟩|⟨g',cap,cur,q,hB,hg,hn,hc,hcs,ht⟩
     ·cases q
     ·simp only[Value.slice.injEq,Option.some.injEq,Addr.mk.injEq,and_true] at q
      obtain ⟨rfl,rfl,rfl⟩:=q
      have hlen:c1.length=i*t'.size:=by rw[RowsBy.len (fun _ _ q=>q.len) r1,List.length_take,Nat.min_eq_left (Nat.le_of_lt hp')]
      have hlk:k.length=(a.eval Y).cells.size:=by rw[hk'];simp
      have hcur:cur.toList=(c1++k1)++k++(k2++c2++cur.toList.drop (xs.length*t'.size)):=by
       calc cur.toList=cur.toList.take (xs.length*t'.size)++cur.toList.drop (xs.length*t'.size):=(List.take_append_drop _ _).symm
        _=_:=by rw[ht,hcells];simp
      have hpre:i*t'.size+off=(c1++k1).length:=by rw[List.length_append];omega
      have hcsz:cur.size=((c1++k1)++k++(k2++c2++cur.toList.drop (xs.length*t'.size))).length:=by rw[←hcur];simp
      have hone:=hY'.2.one
      have hnew:(cur.toList.take (i*t'.size+off)++(a.eval Y).cells.toList++cur.toList.drop (i*t'.size+off+(a.eval Y).cells.size))=(c1++k1)++(a.eval Y).cells.toList++(k2++c2++cur.toList.drop (xs.length*t'.size)):=by
       conv=>lhs;rw[hcur]
       rw[hpre,←hlk];have e1:(c1++k1++k++(k2++c2++cur.toList.drop (xs.length*t'.size))).take (c1++k1).length=c1++k1:=by
        rw[List.append_assoc,List.take_left]
       have e2:(c1++k1++k++(k2++c2++cur.toList.drop (xs.length*t'.size))).drop ((c1++k1).length+k.length)=k2++c2++cur.toList.drop (xs.length*t'.size):=by
        rw[←List.length_append,List.drop_left]
       rw[e1,e2]
      refine does_skip (w':=w.setRow g (cur.toList.take (i*t'.size+off)++(a.eval Y).cells.toList++cur.toList.drop (i*t'.size+off+(a.eval Y).cells.size)).toArray) ?_ ?_
      ·have hst:=run_store_at (P:=P) (T:=T) (off:=i*t'.size+off) (v:=a.eval Y) hg (by rw[tyOk_size hT,←hY'.2.len];simp) (by rw[hcsz,hpre,←hlk];simp only[List.length_append];omega) hone
       unfold execOp;simp only[ho,e2]
       rw[Sem.run_bind,hst];rfl
      ·refine c.write (ks:=ls) hl' rfl hnl rfl rfl rfl (by simp) (fun b hb hne=>setRow_other _ _ _ _ (fun e=>hne (by rw[e1,e];rfl))) (fun hlt=>?_) (fun _=>trivial)
       have hl2:Later w (Mu M (kill hp ls) ψ) (w.setRow g (cur.toList.take (i*t'.size+off)++(a.eval Y).cells.toList++cur.toList.drop (i*t'.size+off+(a.eval Y).cells.size)).toArray) (Mu M (putHp (kill hp ls) l (.row e t' (xs.set i y'))) ψ):=by
        refine ⟨by simp,fun b hb hm=>setRow_other _ _ _ _ fun e=>hm ?_,fun b hb q=>?_,hlt.bound⟩
        ·subst e;exact .inr ⟨l,_,by rw[kill_not hnl];exact hl',by rw[e1];rfl⟩
        ·rcases q with q|⟨z,ob,q1,q2⟩
         ·exact .inl q
         ·by_cases ez:z=l
          ·subst ez;exact .inr ⟨z,_,by rw[kill_not hnl];exact hl',q2⟩
          ·rw[putHp_other _ _ ez] at q1;exact .inr ⟨z,ob,q1,q2⟩
       refine ⟨c1++(k1++(a.eval Y).cells.toList++k2)++c2,⟨?_,.inr ⟨g,cp,_,?_,hB,setRow_heap w g cur _ _ _ hg,?_,hc,?_,?_⟩⟩,RowsBy.set hp' (r1.mono fun _ _ _ q=>q.later hlt) (hr.later hl2) (r3.mono fun _ _ _ q=>q.later hlt)⟩
       ·have:=hown.1
        rw[hcells] at this
        simp only[List.length_append,List.length_set,Array.length_toList] at this⊢
        omega
       ·rw[e1];simp
       ·simpa using hn
       ·rw[hnew]
        simp only[List.size_toArray]
        rw[←hcs,hcsz]
        simp only[List.length_append,Array.length_toList]
        omega
       ·rw[hnew,List.toList_toArray]
        have hl3:(c1++(k1++(a.eval Y).cells.toList++k2)++c2).length=(xs.set i y').length*t'.size:=by
         have:=hown.1;rw[hcells] at this;simp only[List.length_append,List.length_set,Array.length_toList] at this⊢;omega
        rw[←hl3,show c1++k1++(a.eval Y).cells.toList++(k2++c2++cur.toList.drop (xs.length*t'.size))=(c1++(k1++(a.eval Y).cells.toList++k2)++c2)++cur.toList.drop (xs.length*t'.size) by simp,List.take_left]
   ·cases h
  ·cases h
 ·cases h
end
end T
end Go.Proofs.YtpocfbfmjippnaaGreat
end
section
namespace Go.Proofs.YtpocfbfmjippnaaGreat
open Go.RowKit
namespace T
section
variable {P:Program} {B:Nat} {M:Nat→Prop} {hp lh:Hp} {ψ:Nat→Value} {w w':World} {fr:Nat} {C:List Ent} {o:Oper} {a:Act}
theorem fieldOk_spec {T:TypeId} {f off:Nat} {t:Ty} (h:fieldOk P T f off t=true):∃fs x,P.underlying T=some (.struct fs)∧fs[f]?=some x∧x.offset=off∧tyOk P x.type t=true∧t.size≠0:=by
 unfold fieldOk at h;split at h
 ·rename_i fs hu;split at h
  ·rename_i x hx;simp only[Bool.and_eq_true,beq_iff_eq,bne_iff_ne] at h;exact ⟨fs,x,hu,hx,h.1.1,h.1.2,h.2⟩
  ·cases h
 ·cases h
theorem elemIs_spec {T:TypeId} {t:Ty} (h:elemIs P T t=true):∃e,P.underlying T=some (.slice e)∧(P.info? e).map (·.size)=some t.size∧(sizeOf e).run P w= .ok t.size w:=by
 unfold elemIs at h;split at h
 ·rename_i e hu;simp only[beq_iff_eq] at h;refine ⟨e,hu,h,?_⟩;obtain ⟨i,hi,hs⟩:=Option.map_eq_some_iff.1 h;simp[sizeOf,typeInfo,hi,hs]
 ·cases h
theorem elemOk_spec {T e:TypeId} {t:Ty} (h:elemOk P T e t=true):P.underlying T=some (.slice e)∧∃i,P.info? e=some i∧i.size=t.size:=by
 unfold elemOk at h;simp only[Bool.and_eq_true,beq_iff_eq] at h;obtain ⟨h1,h2⟩:=h;split at h1
 ·rename_i e' hu;simp only[beq_iff_eq] at h1;subst h1;obtain ⟨i,hi,hs⟩:=Option.map_eq_some_iff.1 h2;exact ⟨hu,i,hi,hs⟩
 ·cases h1
theorem run_part_of {T:TypeId} {t:Ty} (hT:tyOk P T t=true) {pre cc post:List Value} {cs:Array Value} (e:cs.toList=pre++cc++post) (hl:cc.length=t.size):
  (t.isSt=true→(part T cs pre.length).run P w= .ok (.agg cc.toArray) w)∧(t.isSt=false→∀u,cc=[u]→(part T cs pre.length).run P w= .ok u w):=by
 constructor
 ·intro hs
  obtain ⟨fs,hu,hi⟩:=tyOk_st hT hs
  obtain ⟨i,hi',his⟩:=Option.map_eq_some_iff.1 hi
  have hx:cs.extract pre.length (pre.length+t.size)=cc.toArray:=by
   apply Array.ext';rw[Array.toList_extract,e];simp[List.extract_eq_take_drop,←hl]
  simp[part,isAgg,run_underlying hu,sizeOf,typeInfo,hi',his,hx]
 ·intro hs u hcc
  subst hcc
  obtain ⟨h1,h2,h3⟩:=tyOk_one (w:=w) hT hs
  have:cs[pre.length]?=some u:=by
   rw[←Array.getElem?_toList,e];simp
  simp[part,h2,this]
theorem field_ok {T:TypeId} {f off:Nat} {t:Ty} {X:Operand} {x av:AV} (ho:o.op= .field T X f) (hT:fieldOk P T f off t=true)
  (hX:AVR P hp ψ w (Mu M hp ψ) x (a.eval X)) (h:fieldx off t x=some av) (c:Ctx P B M hp ψ w fr):Does P o a w (OpPost P B M hp ψ w fr (pur av)):=by
 obtain ⟨fs,fx,hu,hfx,hoff,hty,hsz⟩:=fieldOk_spec hT
 have fin:∀(cs:Array Value) pre cc post,a.eval X= .agg cs→cs.toList=pre++cc++post→pre.length=off→cc.length=t.size→(t.isSt=true→AVR P hp ψ w (Mu M hp ψ) av (.agg cc.toArray))→(t.isSt=false→∃u,cc=[u]∧AVR P hp ψ w (Mu M hp ψ) av u)→
   Does P o a w (OpPost P B M hp ψ w fr (pur av)):=by
  intro cs pre cc post e1 e2 e3 e4 k1 k2
  obtain ⟨r1,r2⟩:=run_part_of (w:=w) hty e2 e4
  cases hs:t.isSt with
  |true=>
   refine does_run ?_ (c.pure (k1 hs))
   unfold execOp;simp only[ho,e1]
   simp[Instr.field,run_underlying hu,hfx,hoff,asAgg,←e3,r1 hs]
  |false=>
   obtain ⟨u,hcc,hr⟩:=k2 hs
   refine does_run ?_ (c.pure hr)
   unfold execOp;simp only[ho,e1]
   simp[Instr.field,run_underlying hu,hfx,hoff,asAgg,←e3,r2 hs u hcc]
 unfold fieldx at h
 split at h
 ·rename_i t' d
  cases hs':t'.isSt with
  |true=>
   rw[hs',if_pos rfl] at h
   obtain ⟨e,he,rfl⟩:=Option.map_eq_some_iff.1 h
   obtain ⟨c1,cc,c2,k1,k2,k3⟩:=proj_rd hX.2 he
   obtain ⟨cs,hcs⟩:=hX.1.2 hs'
   rw[hcs] at k1
   refine fin cs c1 cc c2 hcs k1 k2 k3.len (fun hs=>⟨shape_agg hs,by simpa [Value.cells] using k3⟩) fun hs=>?_
   obtain ⟨u,hu,hr⟩:=k3.cell (tyOk_one (w:=w) hty hs).1 hs
   exact ⟨u,hu,hr⟩
  |false=>
   rw[hs'] at h
   cases h
 ·rename_i cs
  obtain ⟨us,e1,q,q1⟩:=hX
  obtain ⟨cc,⟨pre,post,k1,k2⟩,k3,k4,k5⟩:=partOf_ok hty h q q1
  exact fin us pre cc post e1 k1 k2 k3 k4 k5
 ·cases h
theorem run_fieldAt_mid {T:TypeId} {f off:Nat} {t:Ty} (hT:fieldOk P T f off t=true) (b o':Nat):(Instr.fieldAt T (.pointer (some ⟨b,o',none⟩)) f).run P w= .ok (.pointer (some ⟨b,o'+off,none⟩)) w:=by
 obtain ⟨fs,fx,hu,hfx,hoff,hty,hsz⟩:=fieldOk_spec hT;obtain ⟨i,hi,his⟩:=Option.map_eq_some_iff.1 (tyOk_size hty);have:i.size≠0:=by rw[his];exact hsz
 simp[Instr.fieldAt,run_underlying hu,hfx,Instr.sureAddr,fieldPlace,sizeOf,typeInfo,hi,this,Addr.add_mid,hoff]
theorem ptr_val {hp:Hp} {M':Nat→Prop} {t:Ty} {d:t.den} {b off:Nat} {cc:List Value} (h1:b<w.heap.size) (h2:¬M' b) (h3:CellsAt w b off cc) (h4:Rd P t w M' d cc):AVR P hp ψ w M' (.val (.ptr t) d) (.pointer (some ⟨b,off,none⟩)):=
 ⟨shape_ptr,b,off,cc,rfl,h1,h2,h3,h4⟩
theorem faddr_ok {T:TypeId} {f off:Nat} {t:Ty} {X:Operand} {x av:AV} (ho:o.op= .fieldAddr T X f) (hT:fieldOk P T f off t=true) (hlh:∀l ob,lh l=some ob→hp l=some ob)
  (hX:AVR P hp ψ w (Mu M hp ψ) x (a.eval X)) (h:faddrx lh off t x=some av) (c:Ctx P B M hp ψ w fr):Does P o a w (OpPost P B M hp ψ w fr (pur av)):=by
 have fin:∀b o',a.eval X= .pointer (some ⟨b,o',none⟩)→AVR P hp ψ w (Mu M hp ψ) av (.pointer (some ⟨b,o'+off,none⟩))→Does P o a w (OpPost P B M hp ψ w fr (pur av)):=by
  intro b o' e q;refine does_run ?_ (c.pure q);unfold execOp;simp only[ho,e];rw[Sem.run_bind,run_fieldAt_mid hT];rfl
 unfold faddrx at h
 split at h
 ·rename_i l o'
  obtain ⟨ob,hl,rfl⟩:=Option.map_eq_some_iff.1 h
  obtain ⟨b,e1,e2⟩:=hX _ (hlh _ _ hl)
  exact fin b o' e2 fun _ _=>⟨b,e1,rfl⟩
 ·rename_i l i o'
  split at h
  ·rename_i e t' xs hl
   injection h with h;subst h
   obtain ⟨g,n,cp,e1,e2⟩:=hX _ _ _ (hlh _ _ hl)
   refine fin g _ e2 fun e0 t0 xs0 h0=>?_
   obtain ⟨g',n',cp',e3,e4⟩:=hX _ _ _ h0
   rw[e2] at e4
   refine ⟨g',n',cp',e3,?_⟩
   simp only[Value.pointer.injEq,Option.some.injEq,Addr.mk.injEq,and_true] at e4⊢
   omega
  ·cases h
 ·rename_i t' d
  obtain ⟨e,he,rfl⟩:=Option.map_eq_some_iff.1 h
  obtain ⟨b,o',cc,e1,h1,h2,h3,h4⟩:=avr_ptr hX
  obtain ⟨c1,c',c2,rfl,k2,k3⟩:=proj_rd h4 he
  refine fin b o' e1 ?_
  rw[←k2]
  exact ptr_val h1 h2 h3.left.right k3
 ·cases h
theorem iaddr_ok {T:TypeId} {t:Ty} {X Y:Operand} {x av:AV} {k:IntKind} {i:Int} {p:Prop} (ho:o.op= .indexAddr T X Y) (hT:elemIs P T t=true) (hlh:∀l ob,lh l=some ob→hp l=some ob)
  (hX:AVR P hp ψ w (Mu M hp ψ) x (a.eval X)) (hY:AVR P hp ψ w (Mu M hp ψ) (.val (.int k) i) (a.eval Y)) (h:iaddrx lh t i x=some (p,av)) (hp':p) (c:Ctx P B M hp ψ w fr):Does P o a w (OpPost P B M hp ψ w fr (pur av)):=by
 obtain ⟨e,hu,_,hsz⟩:=elemIs_spec (w:=w) hT
 obtain ⟨eY,_⟩:=avr_int hY
 have fin:∀b o' n cp,a.eval X= .slice (some ⟨b,o',none⟩) n cp→0≤i→i<n→AVR P hp ψ w (Mu M hp ψ) av (.pointer (some ⟨b,o'+i.toNat*t.size,none⟩))→Does P o a w (OpPost P B M hp ψ w fr (pur av)):=by
  intro b o' n cp e' h0 h1 q;refine does_run ?_ (c.pure q);unfold execOp;simp only[ho,e',eY];simp[Instr.indexAt,asIntOf,run_underlying hu,h0,h1,hsz,Addr.add_mid]
 unfold iaddrx at h
 split at h
 ·rename_i l
  split at h
  ·rename_i e' t' xs hl
   split at h
   ·rename_i et;subst et
    simp only[Option.some.injEq,Prod.mk.injEq] at h
    obtain ⟨rfl,rfl⟩:=h
    have hl':=hlh _ _ hl
    have eX:=hX _ hl'
    obtain ⟨cells,hown,hrow⟩:=c.hok.ob l _ hl'
    rcases id hown.2 with ⟨_,q⟩|⟨g,cap,cur,q,_⟩
    ·omega
    ·refine fin g 0 _ cap (by rw[eX,q]) hp'.1 hp'.2 fun e0 t0 xs0 h0=>⟨g,_,_,q,?_⟩
     rw[hl'] at h0
     simp only[Option.some.injEq,OB.row.injEq] at h0
     obtain ⟨_,rfl,_⟩:=h0
     simp
   ·cases h
  ·cases h
 ·rename_i t' xs
  split at h
  ·rename_i et;subst et
   simp only[Option.some.injEq,Prod.mk.injEq] at h
   obtain ⟨rfl,rfl⟩:=h
   obtain ⟨A,n,cp,e1,e2,e3,e4,e5⟩:=(RdV.one (t:=.sl t') hX rfl rfl).1
   simp only[List.cons.injEq,and_true] at e1
   rcases e5 with e5|⟨b,off,cc,rfl,h1,h2,h3,h4⟩
   ·omega
   ·have hi:i.toNat<xs.length:=by omega
    obtain ⟨c1,cc',c2,rfl,r1,r2,r3⟩:=h4.at hi
    have hlen:c1.length=i.toNat*t'.size:=by rw[RowsBy.len (fun _ _ q=>q.len) r1,List.length_take,Nat.min_eq_left (Nat.le_of_lt hi)]
    refine fin b off n cp e1 hp'.1 (by omega) ?_
    rw[←hlen,List.getD_eq_getElem?_getD,List.getElem?_eq_getElem hi,Option.getD_some]
    exact ptr_val h1 h2 h3.left.right r2
  ·cases h
 ·rename_i l n
  split at h
  ·rename_i T0 cs0 hl
   split at h
   ·rename_i et
    simp only[Option.some.injEq,Prod.mk.injEq] at h
    obtain ⟨rfl,rfl⟩:=h
    have hl':=hlh _ _ hl
    obtain ⟨b,cp,q,eX,_⟩:=hX _ hl'
    refine fin b 0 n cp eX hp'.1 hp'.2 fun ob0 h0=>⟨b,q,?_⟩
    rw[et,Nat.zero_add,Nat.mul_one]
   ·cases h
  ·cases h
 ·cases h
theorem avInt_some {x:AV} {n:Int} (h:avInt x=some n):∃k,x= .val (.int k) n:=by
 unfold avInt at h;split at h
 ·injection h with h;subst h;exact ⟨_,rfl⟩
 ·cases h
theorem bounds_run {M':Nat→Prop} {T e:TypeId} {lo hi:Bool} {L H:Option Operand} {bs:List AV} {A:Option Addr} {n cp s:Nat} {len l m:Int} (hu':P.underlying T=some (.slice (P.elem T))) (hel:P.elem T=e) (hsz:(sizeOf e).run P w= .ok s w)
  (hL:L.isSome=lo) (hH:H.isSome=hi) (hB:AVRs P hp ψ w M' bs (L.toList.map a.eval++H.toList.map a.eval)) (hb:bounds lo hi bs len=some (l,m)) (h0:0≤l) (h1:l≤m) (h2:m≤len) (h3:len≤cp) (h4:(n:Int)=len):
  (Instr.slice T (.slice A n cp) (L.map a.eval) (H.map a.eval) none).run P w= .ok (sliced A l.toNat m.toNat cp s) w:=by
 cases L with
 |none=>
  cases H with
  |none=>
   subst hL hH
   obtain rfl:bs=[]:=by have:=hB.len;simpa using this.symm
   simp only[bounds,Option.isSome_none,Bool.not_false,Bool.and_self,if_true,Option.some.injEq,Prod.mk.injEq] at hb
   obtain ⟨rfl,rfl⟩:=hb
   simp only[Option.map_none]
   rw[run_slice_all w T A n cp hu',hel,hsz,←h4]
   simp
  |some H=>
   subst hL hH
   simp only[Option.toList_none,List.map_nil,List.nil_append,Option.toList_some,List.map_cons] at hB
   obtain ⟨x,rfl⟩:∃x,bs=[x]:=List.length_eq_one_iff.1 (by have:=hB.len;simpa using this.symm)
   obtain ⟨v,hv,q⟩:=avr1 hB
   simp only[List.cons.injEq,and_true] at hv;subst hv
   simp[bounds] at hb
   obtain ⟨hx,rfl⟩:=hb
   obtain ⟨k,rfl⟩:=avInt_some hx
   simp only[Option.map_none,Option.map_some,(avr_int q).1]
   rw[run_slice_h w T A n cp hu' k m h1 (by omega),hel,hsz]
   simp
 |some L=>
  cases H with
  |none=>
   subst hL hH
   simp only[Option.toList_none,List.map_nil,List.append_nil,Option.toList_some,List.map_cons] at hB
   obtain ⟨x,rfl⟩:∃x,bs=[x]:=List.length_eq_one_iff.1 (by have:=hB.len;simpa using this.symm)
   obtain ⟨v,hv,q⟩:=avr1 hB
   simp only[List.cons.injEq,and_true] at hv;subst hv
   simp[bounds] at hb
   obtain ⟨y,hx,rfl,rfl⟩:=hb
   obtain ⟨k,rfl⟩:=avInt_some hx
   simp only[Option.map_none,Option.map_some,(avr_int q).1]
   rw[run_slice_l w T A n cp hu' k y h0 (by omega),hel,hsz,←h4]
   simp
  |some H=>
   subst hL hH
   simp only[Option.toList_some,List.map_cons,List.map_nil,List.singleton_append] at hB
   obtain ⟨x,z,rfl⟩:∃x z,bs=[x,z]:=by
    have:=hB.len;match bs,this with
    |[x,z],_=>exact ⟨x,z,rfl⟩
   obtain ⟨v,u,hv,q,q'⟩:=avr2 hB
   simp only[List.cons.injEq,and_true] at hv;obtain ⟨rfl,rfl⟩:=hv
   cases hx:avInt x with
   |none=>simp[bounds,hx] at hb
   |some y=>
   cases hy:avInt z with
   |none=>simp[bounds,hx,hy] at hb
   |some y'=>
   simp[bounds,hx,hy] at hb
   obtain ⟨rfl,rfl⟩:=hb
   obtain ⟨k,rfl⟩:=avInt_some hx
   obtain ⟨k',rfl⟩:=avInt_some hy
   simp only[Option.map_some,(avr_int q).1,(avr_int q').1]
   rw[run_slice_lh w T A n cp hu' k k' y y' h0 h1 (by omega),hel,hsz]
   simp
theorem slice_ok {T:TypeId} {t:Ty} {lo hi:Bool} {X:Operand} {L H:Option Operand} {x:AV} {bs:List AV} {eff:Eff} {p:Prop} (ho:o.op= .slice T X L H none) (hT:elemIs P T t=true) (hlh:∀l ob,lh l=some ob→hp l=some ob)
  (hL:L.isSome=lo) (hH:H.isSome=hi) (hX:AVR P hp ψ w (Mu M hp ψ) x (a.eval X)) (hB:AVRs P hp ψ w (Mu M hp ψ) bs (L.toList.map a.eval++H.toList.map a.eval)) (h:slicex lh t lo hi bs x=some (p,eff)) (hp':p) (c:Ctx P B M hp ψ w fr):Does P o a w (OpPost P B M hp ψ w fr eff):=by
 obtain ⟨e,hu,hinfo,hsz⟩:=elemIs_spec (w:=w) hT
 have hel:P.elem T=e:=by unfold Program.elem;rw[hu]
 have hu':P.underlying T=some (.slice (P.elem T)):=by rw[hel];exact hu
 unfold slicex at h
 split at h
 ·rename_i xs ls hrd
  split at h
  ·rename_i l m hb
   simp only[Option.some.injEq,Prod.mk.injEq] at h
   obtain ⟨rfl,rfl⟩:=h
   have hX':=rd_ok c.hok hlh hrd hX (ls':=ls) (fun _ h=>h)
   obtain ⟨A,n,cp,e1,e2,e3,e4⟩:=slice_fin hX' l.toNat m.toNat (by omega) (by omega)
   have fin:(Instr.sliceAt T (a.eval X) (L.map a.eval) (H.map a.eval) none).run P w= .ok (sliced A l.toNat m.toNat cp t.size) w→Does P o a w (OpPost P B M hp ψ w fr ⟨.val (.sl t) ((xs.take m.toNat).drop l.toNat),ls,none⟩):=by
    intro hr;refine does_run ?_ (c.kills (Below.refl _ _) e4);unfold execOp;simp only[ho];simp[hr]
   apply fin
   rw[run_sliceAt_slice w T _ _ _ _ hu',e1]
   exact bounds_run hu' hel hsz hL hH hB hb (by omega) (by omega) (by omega) (by omega) (by rw[e2])
  ·cases h
 ·cases h
end
end T
end Go.Proofs.YtpocfbfmjippnaaGreat
end
