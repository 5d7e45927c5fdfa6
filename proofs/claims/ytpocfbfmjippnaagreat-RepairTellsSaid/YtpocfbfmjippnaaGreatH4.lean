/- Parts of the proof of the law; no condition. -/
import Derived.Test.YtpocfbfmjippnaaGreatH3
set_option linter.all false
section
namespace Go.Proofs.YtpocfbfmjippnaaGreat
open Go.RowKit
namespace T
abbrev St:=(Nat→AV)×Hp
def Tr.app (t:Tr) (s:St):St:=(setF s.1 t.dst t.e.v,t.e.app s.2)
def apE (E:Nat→Bool):Nat→List Tr→St→St
 |_,[],s=>s
 |k,t::r,s=>apE E (k+1) r (if E k then t.app s else s)
theorem eff_same {e:Eff} {h:Hp} {l:Nat} (hl:l∉e.tch):e.app h l=h l:=by
 obtain ⟨v,ks,pt⟩:=e;cases pt with
 |none=>rw[app_none];exact kill_not hl
 |some lo=>
  obtain ⟨l0,ob⟩:=lo;simp only[Eff.tch,List.mem_cons,not_or] at hl;rw[app_put,putHp_other _ _ hl.1,kill_not hl.2]
theorem eff_at {e:Eff} {h h':Hp} {l:Nat} (hl:h l=h' l):e.app h l=e.app h' l:=by
 obtain ⟨v,ks,pt⟩:=e;cases pt with
 |none=>simp only[app_none,kill,hl]
 |some lo=>obtain ⟨l0,ob⟩:=lo;simp only[app_put,putHp,kill,hl]
theorem eff_set {e:Eff} {h h':Hp} {l:Nat} (hl:l∈e.tch):e.app h l=e.app h' l:=by
 obtain ⟨v,ks,pt⟩:=e;cases pt with
 |none=>simp only[Eff.tch] at hl;simp[app_none,kill,hl]
 |some lo=>
  obtain ⟨l0,ob⟩:=lo;simp only[Eff.tch,List.mem_cons] at hl;simp only[app_put,putHp,kill];split
  ·rfl
  ·rename_i hne;rw[if_pos (hl.resolve_left hne),if_pos (hl.resolve_left hne)]
theorem apE_tm {E E':Nat→Bool} {t:Nat}:∀{trs:List Tr} {k:Nat} {s s':St},s.1 t=s'.1 t→(∀j tr,trs[j]?=some tr→E (k+j)≠E' (k+j)→tr.dst≠some t)→(apE E k trs s).1 t=(apE E' k trs s').1 t
 |[],_,_,_,h,_=>h
 |tr::r,k,s,s',h,hd=>by
  simp only[apE];refine apE_tm ?_ fun j x hj hne=>hd (j+1) x (by simpa using hj) (by rwa [←Nat.add_assoc,Nat.add_right_comm]);have h0:=hd 0 tr rfl;simp only[Nat.add_zero] at h0;have key:∀s s':St,s.1 t=s'.1 t→(tr.app s).1 t=(tr.app s').1 t:=fun s s' h=>by
   unfold Tr.app setF;cases tr.dst with
   |none=>exact h
   |some d=>simp only;split<;>simp[h]
  by_cases e:E k=E' k
  ·rw[e];split
   ·exact key _ _ h
   ·exact h
  ·have hnd:=h0 e;have same:∀s:St,(tr.app s).1 t=s.1 t:=fun s=>by
    unfold Tr.app setF;cases hdst:tr.dst with
    |none=>rfl
    |some d=>simp only;rw[if_neg (fun q=>hnd (by rw[hdst,q]))]
   cases E k<;>cases E' k<;>simp[same,h]
theorem apE_hp {E E':Nat→Bool} {l:Nat}:∀{trs:List Tr} {k:Nat} {s s':St},s.2 l=s'.2 l→(∀j tr,trs[j]?=some tr→E (k+j)≠E' (k+j)→l∉tr.e.tch)→(apE E k trs s).2 l=(apE E' k trs s').2 l
 |[],_,_,_,h,_=>h
 |tr::r,k,s,s',h,hd=>by
  simp only[apE];refine apE_hp ?_ fun j x hj hne=>hd (j+1) x (by simpa using hj) (by rwa [←Nat.add_assoc,Nat.add_right_comm]);have h0:=hd 0 tr rfl;simp only[Nat.add_zero] at h0;by_cases e:E k=E' k
  ·rw[e];split
   ·exact eff_at h
   ·exact h
  ·have hnd:=h0 e;have same:∀s:St,(tr.app s).2 l=s.2 l:=fun s=>eff_same hnd;cases E k<;>cases E' k<;>simp[same,h]
def Comm (a b:Tr):Prop:=(∀d,a.dst=some d→b.dst≠some d)∧∀l∈a.e.tch,l∉b.e.tch
theorem Comm.app {a b:Tr} (h:Comm a b) (s:St):a.app (b.app s)=b.app (a.app s):=by
 unfold Tr.app;refine Prod.ext ?_ ?_
 ·funext t;simp only[setF];cases ha:a.dst with
  |none=>rfl
  |some d=>
   cases hb:b.dst with
   |none=>rfl
   |some d'=>
    simp only;by_cases e:t=d
    ·subst e;rw[if_pos rfl,if_neg (fun q=>h.1 t ha (by rw[hb,q])),if_pos rfl]
    ·rw[if_neg e];split
     ·rfl
     ·simp[e]
 ·funext l;simp only;by_cases e:l∈a.e.tch
  ·rw[eff_same (h.2 l e)];exact eff_set e
  ·rw[eff_same e];exact eff_at (eff_same e).symm
theorem apE_push {E:Nat→Bool} {t:Tr}:∀{trs:List Tr} {k:Nat} {s:St},(∀j tr,trs[j]?=some tr→E (k+j)=true→Comm t tr)→apE E k trs (t.app s)=t.app (apE E k trs s)
 |[],_,_,_=>rfl
 |tr::r,k,s,h=>by
  simp only[apE];have h0:=h 0 tr rfl;simp only[Nat.add_zero] at h0;rw[←apE_push fun j x hj hE=>h (j+1) x (by simpa using hj) (by rwa [←Nat.add_assoc,Nat.add_right_comm])];congr 1;split
  ·rename_i hE;exact ((h0 hE).app s).symm
  ·rfl
theorem apE_insert {E:Nat→Bool} {i:Nat} {ti:Tr}:∀{trs:List Tr} {k:Nat} {s:St},k≤i→trs[i-k]?=some ti→E i=false→(∀j tr,i<k+j→trs[j]?=some tr→E (k+j)=true→Comm ti tr)→
  apE (fun j=>E j||j==i) k trs s=ti.app (apE E k trs s)
 |[],k,s,_,h,_,_=>by simp at h
 |tr::r,k,s,hk,h,hE,hc=>by
  simp only[apE];by_cases e:k=i
  ·subst e;simp only[Nat.sub_self,List.getElem?_cons_zero,Option.some.injEq] at h;subst h;have hsame:∀(r:List Tr) (m:Nat) (s:St),k<m→apE (fun j=>E j||j==k) m r s=apE E m r s:=by
    intro r;induction r with
    |nil=>intros;rfl
    |cons x r ih=>
     intro m s hm;simp only[apE];rw[ih (m+1) _ (by omega)];congr 1;have:(m==k)=false:=by rw[beq_eq_false_iff_ne];omega
     simp[this]
   rw[hsame r (k+1) _ (by omega)];simp only[hE,beq_self_eq_true,Bool.or_true,if_true,Bool.false_eq_true,if_false];exact apE_push fun j x hj hEj=>hc (j+1) x (by omega) (by simpa using hj) (by rwa [←Nat.add_assoc,Nat.add_right_comm])
  ·have hb:(k==i)=false:=by rw[beq_eq_false_iff_ne];exact e
   have hi:r[i-(k+1)]?=some ti:=by
    rw[show i-k=(i-(k+1))+1 by omega] at h;simpa using h
   simp only[hb,Bool.or_false];exact apE_insert (by omega) hi hE fun j x hij hj hEj=>hc (j+1) x (by omega) (by simpa using hj) (by rwa [←Nat.add_assoc,Nat.add_right_comm])
theorem apE_none:∀{trs:List Tr} {k:Nat} {s:St},apE (fun _=>false) k trs s=s
 |[],_,_=>rfl
 |t::r,k,s=>by simp only[apE,Bool.false_eq_true,if_false];exact apE_none
theorem apE_congr {E E':Nat→Bool}:∀{trs:List Tr} {k:Nat} {s:St},(∀j,j<trs.length→E (k+j)=E' (k+j))→apE E k trs s=apE E' k trs s
 |[],_,_,_=>rfl
 |t::r,k,s,h=>by
  simp only[apE];have:=h 0 (by simp);simp only[Nat.add_zero] at this;rw[this];exact apE_congr fun j hj=>by have:=h (j+1) (by simpa using hj);rwa [←Nat.add_assoc,Nat.add_right_comm] at this
def Good (C:List Ent) (nx:Nat) (s:St) (i:Nat) (x:XO) (t:Tr):Prop:=
 ∃p,gop C (restr s.2 t.R) t.fr (gvF s.1 x) x.op (x.args.map (avF s.1))=some (p,t.e)∧p∧t.R=reachO x.op s.2 (x.args.map (avF s.1))∧t.dst=x.dst∧t.fr=nx+i∧t.ast=x.ast∧effIn (t.fr::(t.R++AV.locsL (x.args.map (avF s.1)))) t.e=true
theorem runD_good {C:List Ent} {P:Program} {n:Nat} {ops:Array Oper}:∀{xs:List XO} {os:List Oper} {st st':AS} {p:Prop} {trs:List Tr},runD C st xs=some (p,st',trs)→p→listChk P n ops os xs=true→
  trs.length=xs.length∧(∀i x t,xs[i]?=some x→trs[i]?=some t→Good C st.nx (apE (fun j=>decide (j<i)) 0 trs (tmG st.tm,look st.hp)) i x t)∧
  (tmG st'.tm,look st'.hp)=apE (fun _=>true) 0 trs (tmG st.tm,look st.hp)∧st'.nx=st.nx+xs.length
 |[],os,st,st',p,trs,h,hp',hchk=>by
  simp only[runD,Option.some.injEq,Prod.mk.injEq] at h;obtain ⟨_,rfl,rfl⟩:=h;exact ⟨rfl,fun i x t h=>by simp at h,rfl,rfl⟩
 |x::xs,os,st,st',p,trs,h,hp',hchk=>by
  cases os with
  |nil=>simp[listChk] at hchk
  |cons o os=>
  simp only[listChk,Bool.and_eq_true] at hchk;obtain ⟨⟨⟨⟨h1,h2⟩,h3⟩,h4⟩,h5⟩:=hchk;simp only[runD] at h;split at h
  ·cases h
  ·rename_i p1 st1 t hst;split at h
   ·cases h
   ·rename_i q st2 ts hrun;simp only[Option.some.injEq,Prod.mk.injEq] at h;obtain ⟨rfl,rfl,rfl⟩:=h;unfold stepD at hst;split at hst
    ·cases hst
    ·rename_i p2 e hg;split at hst
     ·rename_i hef;simp only[Option.some.injEq,Prod.mk.injEq] at hst;obtain ⟨rfl,rfl,rfl⟩:=hst;obtain ⟨g1,g2,g3,g5⟩:=runD_good hrun hp'.2 h5;simp only at g2 g3 g5;rw[setT_get,look_app] at g2 g3;have hav:∀zs:List XA,zs.map (XA.av st.tm)=zs.map (avF (tmG st.tm)):=fun zs=>List.map_congr_left fun z _=>av_avF st.tm z;refine ⟨by simp[g1],fun i x' t' hx ht=>?_,?_,by rw[g5];simp;omega⟩
      ·cases i with
       |zero=>
        simp only[List.getElem?_cons_zero,Option.some.injEq] at hx ht;subst hx ht;have e0:(fun j=>decide (j<0))=fun _=>false:=by funext j;simp
        rw[e0,apE_none];refine ⟨p2,?_,hp'.1,by simp only[hav],rfl,rfl,rfl,by rw[←hav];exact hef⟩;rw[←gv_gvF,←hav];exact hg
       |succ i=>
        have:=g2 i x' t' (by simpa using hx) (by simpa using ht);obtain ⟨p3,k1,k2,k3,k4,k5,k6,k7⟩:=this;have e1:apE (fun j=>decide (j<i+1)) 0 (⟨x.dst,e,reachO x.op (look st.hp) (x.args.map (XA.av st.tm)),st.nx,x.ast⟩::ts) (tmG st.tm,look st.hp)=
          apE (fun j=>decide (j<i)) 0 ts (setF (tmG st.tm) x.dst e.v,e.app (look st.hp)):=by
         simp only[apE,Nat.zero_lt_succ,decide_true,if_true,Tr.app]
         have shift:∀(r:List Tr) (k:Nat) (s:St),apE (fun j=>decide (j<i+1)) (k+1) r s=apE (fun j=>decide (j<i)) k r s:=by
          intro r;induction r with
          |nil=>intros;rfl
          |cons y r ih=>intro k s;simp only[apE,Nat.add_lt_add_iff_right];exact ih _ _
         exact shift ts 0 _
        rw[e1];exact ⟨p3,k1,k2,k3,k4,by rw[k5];omega,k6,k7⟩
      ·rw[g3];simp only[apE,if_true,Tr.app];have shift:∀(r:List Tr) (k m:Nat) (s:St),apE (fun _=>true) k r s=apE (fun _=>true) m r s:=by
        intro r;induction r with
        |nil=>intros;rfl
        |cons y r ih=>intro k m s;simp only[apE];exact ih _ _ _
       exact shift ts 0 1 _
     ·cases hst
section
variable {P:Program} {B:Nat} {M:Nat→Prop} {C:List Ent} {n:Nat} {w0:Fix} {Q:Exit→Act→World→Prop} {ops:Array Oper}
theorem listChk_at:∀{os:List Oper} {xs:List XO},listChk P n ops os xs=true→os.length=xs.length∧∀(i:Nat) (o:Oper) (x:XO),os[i]?=some o→xs[i]?=some x→xoChk P ops o x=true∧inRange n x.dst=true∧x.reads.all (· <n)=true∧x.args.all XA.okB=true
 |[],[],_=>⟨rfl,fun i o x h=>by simp at h⟩
 |o::os,x::xs,h=>by
  simp only[listChk,Bool.and_eq_true] at h;obtain ⟨⟨⟨⟨h1,h2⟩,h3⟩,h4⟩,h5⟩:=h;obtain ⟨k1,k2⟩:=listChk_at h5;refine ⟨by simp[k1],fun i o' x' ho hx=>?_⟩;cases i with
  |zero=>simp at ho hx;subst ho hx;exact ⟨h1,h2,h3,h4⟩
  |succ i=>exact k2 i o' x' (by simpa using ho) (by simpa using hx)
 |[],_::_,h=>by simp[listChk] at h
 |_::_,[],h=>by simp[listChk] at h
theorem slotsOk_at:∀{r:List XO} {k:Nat},slotsOk k r=true→∀(i j:Nat) (a b:XO),i<j→r[i]?=some a→r[j]?=some b→(k+i)∈b.ast∨slotsMeet a b=false
 |[],_,_,i,j,a,b,_,h,_=>by simp at h
 |x::r,k,h,i,j,a,b,hij,ha,hb=>by
  simp only[slotsOk,Bool.and_eq_true,List.all_eq_true] at h;cases j with
  |zero=>omega
  |succ j=>
   cases i with
   |zero=>
    simp only[List.getElem?_cons_zero,Option.some.injEq] at ha;subst ha;have:=h.1 b (List.mem_of_getElem? (by simpa using hb));simpa using this
   |succ i=>
    have:=slotsOk_at h.2 i j a b (by omega) (by simpa using ha) (by simpa using hb);rwa [Nat.add_right_comm,Nat.add_assoc] at this
theorem okD_at:∀{r:List Tr} {k:Nat},okD k r=true→∀(i j:Nat) (a b:Tr),i<j→r[i]?=some a→r[j]?=some b→(k+i)∈b.ast∨meet a b=false
 |[],_,_,i,j,a,b,_,h,_=>by simp at h
 |x::r,k,h,i,j,a,b,hij,ha,hb=>by
  simp only[okD,Bool.and_eq_true,List.all_eq_true] at h;cases j with
  |zero=>omega
  |succ j=>
   cases i with
   |zero=>
    simp only[List.getElem?_cons_zero,Option.some.injEq] at ha;subst ha;have:=h.1 b (List.mem_of_getElem? (by simpa using hb));split at this
    ·rename_i h1;left;simpa using h1
    ·right;simpa using this
   |succ i=>
    have:=okD_at h.2 i j a b (by omega) (by simpa using ha) (by simpa using hb);rwa [Nat.add_right_comm,Nat.add_assoc] at this
theorem astOk_at {xs:List XO}:∀{r:List XO} {k:Nat},astOk ops xs k r=true→∀(i:Nat) (x:XO),r[i]?=some x→∃o,ops[k+i]?=some o∧(∀e∈o.after,Region.binds .any e=true→e.on<k+i)∧
  ∀z∈x.ast,∃e∈o.after,Region.binds .any e=true∧(z=e.on∨∃y:XO,xs[e.on]?=some y∧z∈y.ast)
 |[],_,_,i,x,h=>by simp at h
 |y::r,k,h,i,x,hx=>by
  simp only[astOk,Bool.and_eq_true] at h;cases i with
  |succ i=>
   have:=astOk_at h.2 i x (by simpa using hx);rwa [Nat.add_right_comm,Nat.add_assoc] at this
  |zero=>
   simp only[List.getElem?_cons_zero,Option.some.injEq] at hx;subst hx;have h0:=h.1;split at h0
   ·cases h0
   ·rename_i o ho;simp only[Bool.and_eq_true,Array.all_eq_true_iff_forall_mem,List.all_eq_true,Array.any_eq_true'] at h0;refine ⟨o,by simpa using ho,fun e he hb=>?_,fun z hz=>?_⟩
    ·have:=h0.1 e he;simpa [hb] using this
    ·obtain ⟨e,he,hb,hz⟩:=h0.2 z hz;refine ⟨e,he,hb,?_⟩;simp only[Bool.or_eq_true,beq_iff_eq] at hz;rcases hz with hz|hz
     ·exact .inl hz
     ·right;split at hz
      ·rename_i y' hy;exact ⟨y',hy,by simpa using hz⟩
      ·cases hz
theorem ready_some' {listed:Array Bool} (hback:∀(i:Nat) (o:Oper),ops[i]?=some o→∀e∈o.after,Region.binds .any e=true→e.on<i) (hls:listed.size=ops.size):
  ∀k,k<ops.size→listed.getD k true=false→Region.ready .any ops listed≠[]:=by
 intro k
 induction k using Nat.strongRecOn with
 |_ k ih=>
  intro hk h0 hr
  have:k∈Region.ready .any ops listed:=mem_ready.2 ⟨h0,ops[k],by simp[hk],fun e he hb=>by
   have hlt:=hback k ops[k] (by simp[hk]) e he hb;have hlt':e.on<listed.size:=by omega
   cases hh:listed.getD e.on true with
   |false=>exact absurd hr (ih e.on hlt (by omega) hh)
   |true=>simpa [hlt'] using hh⟩
  rw[hr] at this
  cases this
theorem getD_flip {listed:Array Bool} {k:Nat} (hk:k<listed.size):listed.getD k true=listed.getD k false:=by simp[hk]
def unl (N:Nat) (listed:Array Bool):List Nat:=(List.range N).filter fun i=>!listed.getD i false
theorem unl_set {N:Nat} {listed:Array Bool} {i:Nat} (hs:listed.size=N) (hi:i<N) (h0:listed.getD i false=false):(unl N (listed.setIfInBounds i true)).length<(unl N listed).length:=by
 have hsub:∀(r:List Nat),(r.filter fun j=>!(listed.setIfInBounds i true).getD j false).length≤(r.filter fun j=>!listed.getD j false).length∧(i∈r→(r.filter fun j=>!(listed.setIfInBounds i true).getD j false).length<(r.filter fun j=>!listed.getD j false).length):=by
  intro r;induction r with
  |nil=>exact ⟨Nat.le_refl _,fun h=>by simp at h⟩
  |cons y r ih=>
   by_cases e:y=i
   ·subst e;have h1:(listed.setIfInBounds y true).getD y false=true:=by simp[hs,hi]
    rw[List.filter_cons_of_neg (by simp[h1]),List.filter_cons_of_pos (by simpa using h0)];simp only[List.length_cons];exact ⟨by omega,fun _=>by omega⟩
   ·have h1:(listed.setIfInBounds i true).getD y false=listed.getD y false:=by simp[Array.getElem?_setIfInBounds_ne (Ne.symm e)]
    cases hq:listed.getD y false with
    |true=>
     rw[List.filter_cons_of_neg (by rw[h1,hq];simp),List.filter_cons_of_neg (by rw[hq];simp)];exact ⟨ih.1,fun h=>ih.2 ((List.mem_cons.1 h).resolve_left (Ne.symm e))⟩
    |false=>
     rw[List.filter_cons_of_pos (by rw[h1,hq];simp),List.filter_cons_of_pos (by rw[hq];simp)];simp only[List.length_cons];exact ⟨by omega,fun h=>by have:=ih.2 ((List.mem_cons.1 h).resolve_left (Ne.symm e));omega⟩
 exact (hsub (List.range N)).2 (List.mem_range.2 hi)
def fullAst:Nat→List XO→Bool
 |_,[]=>true
 |k,x::r=>(List.range k).all x.ast.contains&&fullAst (k+1) r
theorem fullAst_at:∀{r:List XO} {k:Nat},fullAst k r=true→∀(i:Nat) (x:XO),r[i]?=some x→∀z,z<k+i→z∈x.ast
 |[],_,_,i,x,h=>by simp at h
 |y::r,k,hf,i,x,h=>by
  simp only[fullAst,Bool.and_eq_true,List.all_eq_true,List.mem_range,List.contains_iff_mem] at hf;intro z hz;cases i with
  |zero=>
   simp only[List.getElem?_cons_zero,Option.some.injEq] at h;subst h;exact hf.1 z hz
  |succ i=>exact fullAst_at hf.2 i x (by simpa using h) z (by omega)
theorem region_Dp {ro:Option Nat} (hC:∀e∈C,Con P e) {id:Nat} {xs tl:List XO} {st st':AS} {p:Prop} {trs:List Tr} {a:Act} {w:World} {ψ:Nat→Value} {o1 o2:List Oper} (ho1:ops.toList=o1++o2) (hchk:listChk P n ops o1 xs=true) (hsz:ops.size=(xs++tl).length) (hm:P.follows .mixedOrders=true) (hsl:slotsOk 0 (xs++tl)=true) (hast:astOk ops (xs++tl) 0 (xs++tl)=true)
  (hfa:fullAst xs.length tl=true) (h:runD C st xs=some (p,st',trs)) (hp':p) (hok:okD 0 trs=true) (s:Sim P B M n st ψ w0 a w)
  (hQ:∀(fuel:Nat) (listed:Array Bool) ψ' a' w',listed.size=ops.size→(unl ops.size listed).length≤fuel→(∀j,listed.getD j false=decide (j<xs.length))→Sim P B M n st' ψ' w0 a' w'→wpAnyIn (Fen ro) 0 P .any ops Q fuel listed a' w'):(Code.region id ops true).wpIn (Fen ro) 0 P Q a w:=by
 obtain ⟨g1,g2,g3,g5⟩:=runD_good h hp' hchk
 obtain ⟨k1,k2⟩:=listChk_at hchk
 have hxs:∀(j:Nat) (x:XO),xs[j]?=some x→(xs++tl)[j]?=some x:=fun j x hj=>by
  rw[List.getElem?_append_left (List.getElem?_eq_some_iff.1 hj).1];exact hj
 have hback:∀(i:Nat) (o:Oper),ops[i]?=some o→∀e∈o.after,Region.binds .any e=true→e.on<i:=by
  intro i o ho e he hb;have hi:i<(xs++tl).length:=by rw[←hsz];exact (Array.getElem?_eq_some_iff.1 ho).1
  obtain ⟨o',h1,h2,_⟩:=astOk_at hast i (xs++tl)[i] (by rw[List.getElem?_eq_getElem hi]);rw[Nat.zero_add] at h1 h2;rw[ho] at h1;injection h1 with h1;subst h1;exact h2 e he hb
 refine wpIn_region_any hm ?_
 have main:∀(fuel:Nat) (listed:Array Bool) (ψ:Nat→Value) (a:Act) (w:World),listed.size=ops.size→(unl ops.size listed).length≤fuel→
   (∀(j:Nat) (x:XO),(xs++tl)[j]?=some x→listed.getD j false=true→∀z∈x.ast,listed.getD z false=true)→(∀j,listed.getD j false=true→j<xs.length)→
   SimF P B M (apE (fun j=>listed.getD j false) 0 trs (tmG st.tm,look st.hp)).1 n (apE (fun j=>listed.getD j false) 0 trs (tmG st.tm,look st.hp)).2 (fun l=>l<st.nx∨∃j,listed.getD j false=true∧l=st.nx+j) ψ w0 a w→
   wpAnyIn (Fen ro) 0 P .any ops Q fuel listed a w:=by
  have done:∀(fuel:Nat) (listed:Array Bool) (ψ:Nat→Value) (a:Act) (w:World),listed.size=ops.size→(unl ops.size listed).length≤fuel→(∀j,listed.getD j false=true→j<xs.length)→(∀k,k<xs.length→listed.getD k false=true)→
    SimF P B M (apE (fun j=>listed.getD j false) 0 trs (tmG st.tm,look st.hp)).1 n (apE (fun j=>listed.getD j false) 0 trs (tmG st.tm,look st.hp)).2 (fun l=>l<st.nx∨∃j,listed.getD j false=true∧l=st.nx+j) ψ w0 a w→wpAnyIn (Fen ro) 0 P .any ops Q fuel listed a w:=by
   intro fuel listed ψ a w hs hf hpl hall hsim
   rw[apE_congr (E':=fun _=>true) (fun j hj=>by rw[Nat.zero_add];exact hall j (by rw[←g1];exact hj)),←g3] at hsim
   refine hQ fuel listed ψ a w hs hf (fun j=>?_) ⟨hsim.hok,hsim.av,hsim.size,hsim.defers,fun t l hl=>?_,fun l ob hl=>?_,hsim.bel⟩
   ·by_cases c:j<xs.length
    ·rw[hall j c];simp[c]
    ·cases hq:listed.getD j false with
     |true=>exact absurd (hpl j hq) c
     |false=>simp[c]
   all_goals
    have lt:∀l,(l<st.nx∨∃j,listed.getD j false=true∧l=st.nx+j)→l<st'.nx:=by
     rintro l (q|⟨j,q,rfl⟩)
     ·rw[g5];omega
     ·have:=hpl j q;rw[g5];omega
   ·exact lt l (hsim.lt t l hl)
   ·exact ⟨lt l (hsim.hlt l ob hl).1,fun k hk=>lt k ((hsim.hlt l ob hl).2 k hk)⟩
  have some1:∀(listed:Array Bool),listed.size=ops.size→¬(∀k,k<xs.length→listed.getD k false=true)→∃k,k<ops.size∧k<xs.length∧listed.getD k false=false:=by
   intro listed hs hno;rw[Classical.not_forall] at hno;obtain ⟨k,hk⟩:=hno;rw[Classical.not_imp] at hk;exact ⟨k,by rw[hsz,List.length_append];omega,hk.1,by simpa using hk.2⟩
  intro fuel
  induction fuel with
  |zero=>
   intro listed ψ a w hs hf hcl hpl hsim
   by_cases hall:∀k,k<xs.length→listed.getD k false=true
   ·exact done 0 listed ψ a w hs hf hpl hall hsim
   ·exfalso
    obtain ⟨k,hk,_,hq⟩:=some1 listed hs hall
    have h0:unl ops.size listed=[]:=List.eq_nil_of_length_eq_zero (by omega)
    have:k∈unl ops.size listed:=List.mem_filter.2 ⟨List.mem_range.2 hk,by rw[hq];rfl⟩
    rw[h0] at this;cases this
  |succ fuel ih=>
   intro listed ψ a w hs hf hcl hpl hsim
   by_cases hall:∀k,k<xs.length→listed.getD k false=true
   ·exact done _ listed ψ a w hs hf hpl hall hsim
   obtain ⟨k0,hk0,hk0x,hq0⟩:=some1 listed hs hall
   refine ⟨fun hr=>absurd hr (ready_some' hback hs k0 hk0 (by rw[getD_flip (by omega),hq0])),fun i hi=>?_⟩
   ·obtain ⟨hi0,o,ho,hpre⟩:=mem_ready.1 hi
    have hin:=(Array.getElem?_eq_some_iff.1 ho).1
    rw[getD_flip (by omega)] at hi0
    have hallI:∀(y:XO),(xs++tl)[i]?=Option.some y→∀z∈y.ast,listed.getD z false=true:=by
     intro y hy z hz;obtain ⟨o',n1,n2,n3⟩:=astOk_at hast i y hy;rw[Nat.zero_add] at n1;rw[ho] at n1;injection n1 with n1;subst n1;obtain ⟨e,he,hb,hz'⟩:=n3 z hz;have hon:=hpre e he hb;rcases hz' with rfl|⟨y',hy',hzy⟩
     ·exact hon
     ·exact hcl e.on y' hy' hon z hzy
    have hix:i<xs.length:=by
     rcases Nat.lt_or_ge i xs.length with c|c
     ·exact c
     ·exfalso;have hi2:i<(xs++tl).length:=by rw[←hsz];exact hin
      have hy:(xs++tl)[i]?=Option.some (xs++tl)[i]:=List.getElem?_eq_getElem hi2;have hz:=hallI _ hy k0 (by
       rw[List.getElem?_append_right c] at hy;exact fullAst_at hfa _ _ hy k0 (by omega))
      rw[hq0] at hz;cases hz
    obtain ⟨x,hx⟩:∃x,xs[i]?=some x:=⟨xs[i]'(by omega),by simp[hix]⟩
    obtain ⟨t,ht⟩:∃t,trs[i]?=some t:=⟨trs[i]'(by omega),by simp[show i<trs.length by omega]⟩
    obtain ⟨c1,c2,c3,c4⟩:=k2 i o x (by
     have:ops.toList[i]?=Option.some o:=by rw[Array.getElem?_toList];exact ho
     rw[ho1,List.getElem?_append_left (by omega)] at this;exact this) hx
    obtain ⟨q,m1,m2,m3,m4,m5,m6,m7⟩:=g2 i x t hx ht
    have hastI:∀z∈x.ast,listed.getD z false=true:=hallI x (hxs i x hx)
    have early:∀(j:Nat) (y:XO) (u:Tr),xs[j]?=some y→trs[j]?=some u→(listed.getD (0+j) false)≠decide (0+j<i)→(j<i∧j∉x.ast)∨(i<j∧i∉y.ast):=by
     intro j y u hy hu hne;rw[Nat.zero_add] at hne;rcases Nat.lt_trichotomy j i with c|c|c
     ·left;refine ⟨c,fun hm=>?_⟩;rw[hastI j hm] at hne;simp[c] at hne
     ·subst c;rw[hi0] at hne;simp at hne
     ·right;refine ⟨c,fun hm=>?_⟩;cases hq:listed.getD j false with
      |true=>rw[hcl j y (hxs j y hy) hq i hm] at hi0;cases hi0
      |false=>rw[hq] at hne;simp[show¬j<i by omega] at hne
    have getx:∀(j:Nat) (u:Tr),trs[j]?=some u→∃y,xs[j]?=some y∧u.dst=y.dst∧u.ast=y.ast:=by
     intro j u hu;have hj:j<xs.length:=by rw[←g1];exact (List.getElem?_eq_some_iff.1 hu).1
     obtain ⟨_,_,_,_,r4,_,r6,_⟩:=g2 j xs[j] u (by simp[hj]) hu;exact ⟨xs[j],by simp[hj],r4,r6⟩
    have htm:∀r∈x.reads,(apE (fun j=>listed.getD j false) 0 trs (tmG st.tm,look st.hp)).1 r=(apE (fun j=>decide (j<i)) 0 trs (tmG st.tm,look st.hp)).1 r:=by
     intro r hr;refine apE_tm rfl fun j u hu hne hdst=>?_;obtain ⟨y,hy,y1,y2⟩:=getx j u hu;rw[y1] at hdst;rcases early j y u hy hu hne with ⟨cj,hna⟩|⟨cj,hna⟩
     ·rcases slotsOk_at hsl j i y x cj (hxs j y hy) (hxs i x hx) with q|q
      ·rw[Nat.zero_add] at q;exact hna q
      ·simp[slotsMeet,hdst,hr] at q
     ·rcases slotsOk_at hsl i j x y cj (hxs i x hx) (hxs j y hy) with q|q
      ·rw[Nat.zero_add] at q;exact hna q
      ·simp[slotsMeet,hdst,hr] at q
    have hhp:∀l∈t.R,(apE (fun j=>listed.getD j false) 0 trs (tmG st.tm,look st.hp)).2 l=(apE (fun j=>decide (j<i)) 0 trs (tmG st.tm,look st.hp)).2 l:=by
     intro l hl;refine apE_hp rfl fun j u hu hne htc=>?_;obtain ⟨y,hy,y1,y2⟩:=getx j u hu;rcases early j y u hy hu hne with ⟨cj,hna⟩|⟨cj,hna⟩
     ·rcases okD_at hok j i u t cj hu ht with q|q
      ·rw[Nat.zero_add,m6] at q;exact hna q
      ·simp only[meet,Bool.or_eq_false_iff,List.any_eq_false] at q;have:=q.1 l htc;simp[hl] at this
     ·rcases okD_at hok i j t u cj ht hu with q|q
      ·rw[Nat.zero_add,y2] at q;exact hna q
      ·simp only[meet,Bool.or_eq_false_iff,List.any_eq_false] at q;have:=q.2 l htc;simp[hl] at this
    have hargs:x.args.map (avF (apE (fun j=>listed.getD j false) 0 trs (tmG st.tm,look st.hp)).1)=x.args.map (avF (apE (fun j=>decide (j<i)) 0 trs (tmG st.tm,look st.hp)).1):=by
     refine List.map_congr_left fun z hz=>?_;cases z with
     |t k=>exact htm k (by simp only[XO.reads,List.mem_append,List.mem_flatMap];exact .inl ⟨_,hz,by simp[XA.slot]⟩)
     |_=>rfl
    have hgv:gvF (apE (fun j=>listed.getD j false) 0 trs (tmG st.tm,look st.hp)).1 x=gvF (apE (fun j=>decide (j<i)) 0 trs (tmG st.tm,look st.hp)).1 x:=by
     unfold gvF;cases hg:x.guard with
     |none=>rfl
     |some g=>
      obtain ⟨_,k,b⟩:=g;simp only;rw[htm k (by simp[XO.reads,hg])]
    have hRA:∀l∈t.R,(l<st.nx∨∃j,listed.getD j false=true∧l=st.nx+j):=by
     intro l hl;rw[m3] at hl;have hR':reachO x.op (apE (fun j=>decide (j<i)) 0 trs (tmG st.tm,look st.hp)).2 (x.args.map (avF (apE (fun j=>decide (j<i)) 0 trs (tmG st.tm,look st.hp)).1))=reach (apE (fun j=>decide (j<i)) 0 trs (tmG st.tm,look st.hp)).2 (x.args.map (avF (apE (fun j=>decide (j<i)) 0 trs (tmG st.tm,look st.hp)).1)):=by
      rcases reachO_or x.op (apE (fun j=>decide (j<i)) 0 trs (tmG st.tm,look st.hp)).2 (x.args.map (avF (apE (fun j=>decide (j<i)) 0 trs (tmG st.tm,look st.hp)).1)) with q|q
      ·rw[q] at hl;cases hl
      ·exact q
     rw[hR'] at hl;rw[hR'] at m3;simp only[reach,List.mem_append,List.mem_flatMap] at hl;rw[←hargs] at hl;rcases hl with hl|⟨z,hz,hl⟩
     ·exact hsim.argLocs l hl
     ·split at hl
      ·rename_i ob hob;have hzR:z∈t.R:=by rw[m3,←hargs];exact List.mem_append_left _ hz
       rw[←hhp z hzR] at hob;exact (hsim.hlt z ob hob).2 l hl
      ·cases hl
    unfold effIn at m7
    simp only[Bool.and_eq_true] at m7
    have inA:∀l,l∈t.fr::(t.R++AV.locsL (x.args.map (avF (apE (fun j=>decide (j<i)) 0 trs (tmG st.tm,look st.hp)).1)))→(l<st.nx∨∃j,(listed.setIfInBounds i true).getD j false=true∧l=st.nx+j):=by
     intro l hl;rcases List.mem_cons.1 hl with rfl|hl
     ·exact .inr ⟨i,by simp[hs,hin],m5⟩
     ·have hl2:(l<st.nx∨∃j,listed.getD j false=true∧l=st.nx+j):=by
       rcases List.mem_append.1 hl with hl|hl
       ·exact hRA l hl
       ·rw[←hargs] at hl;exact hsim.argLocs l hl
      rcases hl2 with q|⟨j,q1,q2⟩
      ·exact .inl q
      ·refine .inr ⟨j,?_,q2⟩;by_cases e:i=j
       ·subst e;simp[hs,hin]
       ·simpa [Array.getElem?_setIfInBounds_ne e] using q1
    unfold wpOpIn
    rw[ho]
    refine up_ops (step_ok (lh:=restr (apE (fun j=>decide (j<i)) 0 trs (tmG st.tm,look st.hp)).2 t.R) (fr:=t.fr) (A':=fun l=>l<st.nx∨∃j,(listed.setIfInBounds i true).getD j false=true∧l=st.nx+j) hC hsim c1 c2 c3 c4 ?_ ?_ ?_ (inA _ (by simp)) ?_ ?_ ?_ (by rw[hgv,hargs];exact m1) m2 ?_)
    ·intro l ob hlo
     unfold restr at hlo
     split at hlo
     ·rename_i hl;rw[hhp l hl];exact hlo
     ·cases hlo
    ·rintro (q|⟨j,q1,q2⟩)
     ·rw[m5] at q;omega
     ·rw[m5] at q2
      obtain rfl:i=j:=by omega
      rw[hi0] at q1;cases q1
    ·rintro l (q|⟨j,q1,q2⟩)
     ·exact .inl q
     ·refine .inr ⟨j,?_,q2⟩
      by_cases e:i=j
      ·subst e;simp[hs,hin]
      ·simpa [Array.getElem?_setIfInBounds_ne e] using q1
    ·intro l ob hput
     have:=m7.2
     rw[hput] at this
     simp only[Bool.and_eq_true] at this
     exact inA l (by simpa using this.1)
    ·intro l hl
     exact inA l (inAll_mem m7.1.1 l hl)
    ·intro l ob hput k hk
     have:=m7.2
     rw[hput] at this
     simp only[Bool.and_eq_true] at this
     exact inA k (inAll_mem this.2 k hk)
    ·intro ψ' a' w' hs'
     have hE:apE (fun j=>(listed.setIfInBounds i true).getD j false) 0 trs (tmG st.tm,look st.hp)=t.app (apE (fun j=>listed.getD j false) 0 trs (tmG st.tm,look st.hp)):=by
      rw[←apE_insert (i:=i) (ti:=t) (Nat.zero_le _) ht hi0 (fun j u hij hu hEj=>?_)]
      ·apply apE_congr;intro j hj;rw[Nat.zero_add];by_cases e:i=j
       ·subst e;simp[hs,hin]
       ·have:(j==i)=false:=by rw[beq_eq_false_iff_ne];exact Ne.symm e
        simp[Array.getElem?_setIfInBounds_ne e,this]
      ·rw[Nat.zero_add] at hij hEj;obtain ⟨y,hy,y1,y2⟩:=getx j u hu;have hna:i∉y.ast:=fun hm=>by rw[hcl j y (hxs j y hy) hEj i hm] at hi0;cases hi0
       constructor
       ·intro d hd hd';rw[m4] at hd;rw[y1] at hd';rcases slotsOk_at hsl i j x y hij (hxs i x hx) (hxs j y hy) with q|q
        ·rw[Nat.zero_add] at q;exact hna q
        ·simp[slotsMeet,hd,hd'] at q
       ·intro l hl hl';rcases okD_at hok i j t u hij ht hu with q|q
        ·rw[Nat.zero_add,y2] at q;exact hna q
        ·simp only[meet,Bool.or_eq_false_iff,List.any_eq_false] at q;have:=q.1 l hl;simp[hl'] at this
     refine ih (listed.setIfInBounds i true) ψ' a' w' (by simpa using hs) (by have:=unl_set hs hin hi0;omega) ?_ ?_ ?_
     ·intro j y hy hj z hz
      have hz':listed.getD z false=true:=by
       by_cases e:i=j
       ·subst e;rw[hxs i x hx] at hy;injection hy with hy;subst hy;exact hastI z hz
       ·exact hcl j y hy (by simpa [Array.getElem?_setIfInBounds_ne e] using hj) z hz
      by_cases e:i=z
      ·subst e;simp[hs,hin]
      ·simpa [Array.getElem?_setIfInBounds_ne e] using hz'
     ·intro j hj
      by_cases e:i=j
      ·omega
      ·exact hpl j (by simpa [Array.getElem?_setIfInBounds_ne e] using hj)
     ·rw[hE]
      simp only[Tr.app]
      rw[m4]
      exact hs'
 refine main ops.size (Array.replicate ops.size false) ψ a _ (by simp) ?_ ?_ ?_ ?_
 ·unfold unl
  exact Nat.le_trans (List.length_filter_le _ _) (by simp)
 ·intro j x _ hj
  simp[Array.getElem?_replicate] at hj
  split at hj<;>simp at hj
 ·intro j hj
  simp[Array.getElem?_replicate] at hj
  split at hj<;>simp at hj
 ·have e0:(fun j=>(Array.replicate ops.size false).getD j false)=fun _=>false:=by
   funext j;simp[Array.getElem?_replicate];split<;>rfl
  rw[e0,apE_none]
  have:=s.drew
  refine ⟨this.hok,this.av,this.size,this.defers,fun t l hl=>.inl (this.lt t l hl),fun l ob hl=>⟨.inl (this.hlt l ob hl).1,fun k hk=>.inl ((this.hlt l ob hl).2 k hk)⟩,this.bel⟩
theorem region_D {ro:Option Nat} (hC:∀e∈C,Con P e) {id:Nat} {xs:List XO} {st st':AS} {p:Prop} {trs:List Tr} {a:Act} {w:World} {ψ:Nat→Value} (hchk:listChk P n ops ops.toList xs=true) (hm:P.follows .mixedOrders=true) (hsl:slotsOk 0 xs=true) (hast:astOk ops xs 0 xs=true)
  (h:runD C st xs=some (p,st',trs)) (hp':p) (hok:okD 0 trs=true) (s:Sim P B M n st ψ w0 a w)
  (hQ:∀ψ' a' w',Sim P B M n st' ψ' w0 a' w'→Q .normal a' w'):(Code.region id ops true).wpIn (Fen ro) 0 P Q a w:=by
 have hl:=(listChk_at hchk).1
 rw[Array.length_toList] at hl
 refine region_Dp (tl:=[]) hC (o1:=ops.toList) (o2:=[]) (by simp) hchk (by simpa using hl) hm (by simpa using hsl) (by simpa using hast) rfl h hp' hok s fun fuel listed ψ' a' w' hs hf hall hsim=>?_
 have hr:Region.ready .any ops listed=[]:=by
  apply List.eq_nil_iff_forall_not_mem.2;intro j hj;obtain ⟨h0,o,ho,_⟩:=mem_ready.1 hj;have hj':=(Array.getElem?_eq_some_iff.1 ho).1;rw[getD_flip (by omega),hall j] at h0;simp at h0;omega
 cases fuel with
 |zero=>exact ⟨hr,hQ ψ' a' w' hsim⟩
 |succ fuel=>exact ⟨fun _=>hQ ψ' a' w' hsim,fun i hi=>by rw[hr] at hi;cases hi⟩
theorem ast_lt {all:List XO} (hast:astOk ops all 0 all=true):∀(i:Nat) (x:XO),all[i]?=some x→∀z∈x.ast,z<i:=by
 intro i;induction i using Nat.strongRecOn with
 |_ i ih=>
  intro x hx z hz;obtain ⟨o,n1,n2,n3⟩:=astOk_at hast i x hx;rw[Nat.zero_add] at n2;obtain ⟨e,he,hb,hz'⟩:=n3 z hz;have h1:=n2 e he hb;rcases hz' with rfl|⟨y,hy,hzy⟩
  ·exact h1
  ·exact Nat.lt_trans (ih e.on h1 y hy z hzy) h1
theorem forced_ready {all:List XO} {k:Nat} (hsz:ops.size=all.length) (hast:astOk ops all 0 all=true) (hfull:∀i x,k≤i→all[i]?=some x→∀z,z<i→z∈x.ast) {listed:Array Bool} {j:Nat} (hs:listed.size=ops.size) (hl:∀i,listed.getD i false=decide (i<j)) (hk:k≤j):
  ∀i∈Region.ready .any ops listed,i=j∧j<ops.size:=by
 intro i hi
 obtain ⟨h0,o,ho,hpre⟩:=mem_ready.1 hi
 have hin:=(Array.getElem?_eq_some_iff.1 ho).1
 rw[getD_flip (by omega),hl] at h0
 simp only[decide_eq_false_iff_not,Nat.not_lt] at h0
 rcases Nat.lt_or_ge j i with c|c
 ·exfalso
  have hx:all[i]?=some (all[i]'(by omega)):=List.getElem?_eq_getElem (by omega)
  obtain ⟨o',n1,n2,n3⟩:=astOk_at hast i _ hx
  rw[Nat.zero_add] at n1
  rw[ho] at n1;injection n1 with n1;subst n1
  obtain ⟨e,he,hb,hz⟩:=n3 j (hfull i _ (by omega) hx j c)
  have hon:=hpre e he hb
  have hlt:e.on<j:=by
   rw[hl] at hon;simpa using hon
  rcases hz with h|⟨y,hy,hzy⟩
  ·omega
  ·have:=ast_lt hast e.on y hy j hzy;omega
 ·exact ⟨by omega,by omega⟩
theorem forced_step {ro:Option Nat} {all:List XO} {k:Nat} (hsz:ops.size=all.length) (hast:astOk ops all 0 all=true) (hfull:∀i x,k≤i→all[i]?=some x→∀z,z<i→z∈x.ast) {listed:Array Bool} {j fuel:Nat} {a:Act} {w:World} {o:Oper} (hs:listed.size=ops.size) (hl:∀i,listed.getD i false=decide (i<j)) (hk:k≤j)
  (hf:(unl ops.size listed).length≤fuel) (ho:ops[j]?=some o)
  (hgo:∀(fuel':Nat) (listed':Array Bool),listed'.size=ops.size→(unl ops.size listed').length≤fuel'→(∀i,listed'.getD i false=decide (i<j+1))→
   Up ro P ops o a w (wpAnyIn (Fen ro) 0 P .any ops Q fuel' listed') Q):
  wpAnyIn (Fen ro) 0 P .any ops Q fuel listed a w:=by
 have hj:=(Array.getElem?_eq_some_iff.1 ho).1
 have hj0:listed.getD j false=false:=by rw[hl];simp
 have hback:∀(i:Nat) (o:Oper),ops[i]?=some o→∀e∈o.after,Region.binds .any e=true→e.on<i:=by
  intro i o ho e he hb;have hi:i<all.length:=by rw[←hsz];exact (Array.getElem?_eq_some_iff.1 ho).1
  obtain ⟨o',h1,h2,_⟩:=astOk_at hast i all[i] (by rw[List.getElem?_eq_getElem hi]);rw[Nat.zero_add] at h1 h2;rw[ho] at h1;injection h1 with h1;subst h1;exact h2 e he hb
 cases fuel with
 |zero=>
  exfalso
  have h0:unl ops.size listed=[]:=List.eq_nil_of_length_eq_zero (by omega)
  have:j∈unl ops.size listed:=List.mem_filter.2 ⟨List.mem_range.2 hj,by rw[hj0];rfl⟩
  rw[h0] at this;cases this
 |succ fuel=>
  refine ⟨fun hr=>absurd hr (ready_some' hback hs j hj (by rw[getD_flip (by omega),hj0])),fun i hi=>?_⟩
  obtain ⟨rfl,_⟩:=forced_ready hsz hast hfull hs hl hk i hi
  unfold wpOpIn
  rw[ho]
  refine up_ops (hgo fuel _ (by simpa using hs) (by have:=unl_set hs hj hj0;omega) fun m=>?_)
  by_cases e:i=m
  ·subst e;simp[hs,hj]
  ·have:(listed.setIfInBounds i true).getD m false=listed.getD m false:=by simp[Array.getElem?_setIfInBounds_ne e]
   rw[this,hl]
   simp only[decide_eq_decide];omega
theorem forced_run {ro:Option Nat} (hC:∀e∈C,Con P e) {all:List XO} {k:Nat} (hsz:ops.size=all.length) (hast:astOk ops all 0 all=true) (hfull:∀i x,k≤i→all[i]?=some x→∀z,z<i→z∈x.ast):∀(os:List Oper) (xs:List XO) (j:Nat),ops.toList.drop j=os→k≤j→listChk P n ops os xs=true→
  ∀{st st':AS} {p:Prop},runT C st xs=some (p,st')→p→∀{ψ:Nat→Value} {a:Act} {w:World},Sim P B M n st ψ w0 a w→(∀ψ' a' w',Sim P B M n st' ψ' w0 a' w'→Q .normal a' w')→
  ∀(fuel:Nat) (listed:Array Bool),listed.size=ops.size→(unl ops.size listed).length≤fuel→(∀i,listed.getD i false=decide (i<j))→wpAnyIn (Fen ro) 0 P .any ops Q fuel listed a w
 |[],xs,j,hj,hk,hchk,st,st',p,h,hp',ψ,a,w,s,hQ,fuel,listed,hs,hf,hl=>by
  cases xs with
  |cons _ _=>simp[listChk] at hchk
  |nil=>
   simp only[runT,Option.some.injEq,Prod.mk.injEq] at h;obtain ⟨_,rfl⟩:=h;have hje:ops.size≤j:=by
    have:=congrArg List.length hj;simp at this;omega
   have hr:Region.ready .any ops listed=[]:=by
    apply List.eq_nil_iff_forall_not_mem.2;intro i hi;have:=forced_ready hsz hast hfull hs hl hk i hi;omega
   cases fuel with
   |zero=>exact ⟨hr,hQ ψ a w s⟩
   |succ fuel=>exact ⟨fun _=>hQ ψ a w s,fun i hi=>by rw[hr] at hi;cases hi⟩
 |o::os,xs,j,hj,hk,hchk,st,st',p,h,hp',ψ,a,w,s,hQ,fuel,listed,hs,hf,hl=>by
  cases xs with
  |nil=>simp[listChk] at hchk
  |cons x xs=>
   simp only[listChk,Bool.and_eq_true] at hchk;obtain ⟨⟨⟨⟨h1,h2⟩,h3⟩,h4⟩,h5⟩:=hchk;have hok:ops[j]?=some o:=by
    have:(ops.toList.drop j)[0]?=some o:=by rw[hj];rfl
    rw[List.getElem?_drop] at this;simpa using this
   simp only[runT] at h;split at h
   ·cases h
   ·rename_i p1 st1 hst;split at h
    ·cases h
    ·rename_i q st2 hrun;simp only[Option.some.injEq,Prod.mk.injEq] at h;obtain ⟨rfl,rfl⟩:=h;unfold stepT at hst;split at hst
     ·cases hst
     ·rename_i p2 e hg;split at hst
      ·rename_i hef;simp only[Option.some.injEq,Prod.mk.injEq] at hst;obtain ⟨rfl,rfl⟩:=hst;unfold effOk at hef;simp only[Bool.and_eq_true] at hef;have ef1:=ltAll_mem hef.1;refine forced_step hsz hast hfull hs hl hk hf hok fun fuel' listed' hs' hf' hl'=>?_;refine step_ok (lh:=look st.hp) (fr:=st.nx) (A':=fun l=>l<st.nx+1) hC s h1 h2 h3 h4 (fun _ _ h=>h) (Nat.lt_irrefl _) (fun l h=>Nat.lt_succ_of_lt h) (Nat.lt_succ_self _) ?_ ef1 ?_ ?_ hp'.1 fun ψ' a' w' hs=>?_
       ·intro l ob hput;have:=hef.2;rw[hput] at this;simp only[Bool.and_eq_true,decide_eq_true_eq] at this;exact this.1
       ·intro l ob hput;have:=hef.2;rw[hput] at this;simp only[Bool.and_eq_true] at this;exact ltAll_mem this.2
       ·rw[←gv_gvF,←hg];congr 1
       ·refine forced_run hC hsz hast hfull os xs (j+1) (by rw[←List.tail_drop,hj];rfl) (by omega) h5 hrun hp'.2 (ψ:=ψ') ?_ hQ fuel' listed' hs' hf' hl';show SimF _ _ _ (tmG (setT st.tm x.dst e.v)) _ (look (appL e st.hp)) _ _ _ _ _;rw[setT_get,look_app];exact hs
      ·cases hst
end
end T
end Go.Proofs.YtpocfbfmjippnaaGreat
end
section
namespace Go.Proofs.YtpocfbfmjippnaaGreat
open Go.RowKit
namespace T
inductive XR
 |tmp (t:Nat)|cell (t:Nat) (ty:Ty)
def resAV (st:AS):XR→Option AV
 | .tmp t=>some (tmG st.tm t)
 | .cell t ty=>match tmG st.tm t with
  | .ptr l 0=>match look st.hp l with
   |some (.box _ cs)=>partOf ty cs 0
   |_=>none
  |_=>none
def resAll (st:AS):List XR→Option (List AV)
 |[]=>some []
 |r::rs=>match resAV st r with
  |none=>none
  |some a=>match resAll st rs with
   |none=>none
   |some as'=>some (a::as')
def numb:Nat→List AV→List (Nat×AV)
 |_,[]=>[]
 |k,a::r=>(k,a)::numb (k+1) r
section
variable (P:Program)
def resChk (n:Nat):List ResultVar→List XR→Bool
 |[],[]=>true
 | .tmp t::r,.tmp t'::s=>t==t'&&decide (t<n)&&resChk n r s
 | .cell t T::r,.cell t' ty::s=>t==t'&&decide (t<n)&&tyOk P T ty&&resChk n r s
 |_,_=>false
end
section
variable {P:Program} {C:List Ent} {n:Nat} {B:Nat} {M:Nat→Prop} {ψ:Nat→Value} {w0:Fix} {w:World} {a:Act}
def resOf (tmps:Array Value):ResultVar→Sem Value
 | .tmp t=>pure (tmps.getD t undef)
 | .cell b t=>do loadVar t (←asAddr (tmps.getD b undef))
theorem res_run {st:AS} (s:Sim P B M n st ψ w0 a w):∀{rs:List ResultVar} {xs:List XR} {avs:List AV},resChk P n rs xs=true→resAll st xs=some avs→
  ∃vs:List Value,(rs.mapM (resOf a.tmps)).run P w= .ok vs w∧AVRs P (look st.hp) ψ w (Mu M (look st.hp) ψ) avs vs
 |[],[],avs,_,h=>by
  simp only[resAll,Option.some.injEq] at h;subst h;exact ⟨[],by simp,rfl⟩
 | .tmp t::rs,.tmp t'::xs,avs,hc,h=>by
  simp only[resChk,Bool.and_eq_true,beq_iff_eq,decide_eq_true_eq] at hc;obtain ⟨⟨rfl,hlt⟩,hc⟩:=hc;simp only[resAll,resAV] at h;split at h
  ·cases h
  ·rename_i as' has;injection h with h;subst h;obtain ⟨vs,h1,h2⟩:=res_run s hc has;refine ⟨a.tmps.getD t undef::vs,?_,_,_,rfl,SimF.at s hlt,h2⟩;rw[List.mapM_cons];simp[resOf,h1]
 | .cell t T::rs,.cell t' ty::xs,avs,hc,h=>by
  simp only[resChk,Bool.and_eq_true,beq_iff_eq,decide_eq_true_eq] at hc;obtain ⟨⟨⟨rfl,hlt⟩,hT⟩,hc⟩:=hc;simp only[resAll] at h;split at h
  ·cases h
  ·rename_i av hav;split at h
   ·cases h
   ·rename_i as' has;injection h with h;subst h;obtain ⟨vs,h1,h2⟩:=res_run s hc has;simp only[resAV] at hav;split at hav
    ·rename_i l hl;split at hav
     ·rename_i U cs hbox;have hX:=SimF.at s hlt;rw[hl] at hX;obtain ⟨b,cells,e1,hB,hg,q,q1⟩:=s.hok.ob l _ hbox;obtain ⟨b',e2,e3⟩:=hX _ hbox;rw[e1] at e2;simp only[Value.pointer.injEq,Option.some.injEq,Addr.mk.injEq,and_true] at e2;subst e2;obtain ⟨cc,⟨pre,post,k1,k2⟩,k3,k4,k5⟩:=partOf_ok hT hav q q1;have hcell:=box_cells hg k1;have:∃v,(loadVar T ⟨b,0,none⟩).run P w= .ok v w∧AVR P (look st.hp) ψ w (Mu M (look st.hp) ψ) av v:=by
       cases hs:ty.isSt with
       |true=>
        obtain ⟨fs,hu,hi⟩:=tyOk_st hT hs;rw[k2] at hcell;exact ⟨_,run_loadVar_mid w b 0 T cc _ hcell hu rfl (by rw[hi,k3]),k4 hs⟩
       |false=>
        obtain ⟨u,rfl,hr⟩:=k5 hs;obtain ⟨h1,h2,h3⟩:=tyOk_one (w:=w) hT hs;rw[k2] at hcell;have hcell':w.cell? ⟨b,0,none⟩=some u:=by simpa using hcell 0 u rfl
        exact ⟨u,by simp[loadVar,h2,hcell'],hr⟩
      obtain ⟨v,hv,hav'⟩:=this;refine ⟨v::vs,?_,_,_,rfl,hav',h2⟩;rw[List.mapM_cons];simp only[resOf,e3,asAddr];simp[hv,h1]
     ·cases hav
    ·cases hav
 |[],_::_,_,hc,_=>by simp[resChk] at hc
 | .tmp _::_,[],_,hc,_=>by simp[resChk] at hc
 | .cell _ _::_,[],_,hc,_=>by simp[resChk] at hc
 | .tmp _::_,.cell _ _::_,_,hc,_=>by simp[resChk] at hc
 | .cell _ _::_,.tmp _::_,_,hc,_=>by simp[resChk] at hc
theorem resAll_len:∀{st:AS} {xs:List XR} {avs:List AV},resAll st xs=some avs→avs.length=xs.length
 |st,[],avs,h=>by simp only[resAll,Option.some.injEq] at h;subst h;rfl
 |st,x::xs,avs,h=>by
  simp only[resAll] at h;split at h
  ·cases h
  ·split at h
   ·cases h
   ·rename_i h2;injection h with h;subst h;simp[resAll_len h2]
theorem results_run {st:AS} (s:Sim P B M n st ψ w0 a w) {fn:Func} {xs:List XR} {avs:List AV} (hc:resChk P n fn.results.toList xs=true) (h:resAll st xs=some avs):
  ∃vs:List Value,(results fn a.tmps).run P w= .ok (if h:vs.toArray.size=1 then vs.toArray[0] else .tuple vs.toArray) w∧AVRs P (look st.hp) ψ w (Mu M (look st.hp) ψ) avs vs:=by
 obtain ⟨vs,h1,h2⟩:=res_run s hc h
 refine ⟨vs,?_,h2⟩
 have e:results fn a.tmps=(do let vs←fn.results.mapM (resOf a.tmps);pure (if h:vs.size=1 then vs[0] else .tuple vs)):=by
  unfold results;congr 2
 rw[e,Sem.run_bind,Array.mapM_eq_mapM_toList,Sem.run_map,h1]
 rfl
end
inductive XE
 |normal|exit (id:Nat)|ret
inductive XC
 |skip|reg (draw:Bool) (xs:List XO)|seq (a b:XC)|cond (c:XA) (a b:XC)|block (id:Nat) (b:XC)|loop (b:XC)|exit (id:Nat)|ret|clean (c:XC)
 |icall (draw:Bool) (pre:List XO) (cx:XO) (post:List XO) (f:FuncId) (n':Nat) (res:List XR) (kv:List Nat) (body:XC)
 |dead
 |top (c:XC)
 |rfor (g:XA) (p:Nat) (xA xB:XC) (f:FuncId) (n':Nat) (kv:List Nat) (body:XC)
 |yld (pre:List XO) (cx:XO) (post:List XO) (ky nE p:Nat) (kvB:List Nat) (xA xB:XC)
 |nxt (d t:Nat) (post:List XO)
def XC.hasR:XC→Bool
 | .rfor ..=>true
 | .top c=>c.hasR
 | .seq a b=>a.hasR||b.hasR
 | .cond _ a b=>a.hasR||b.hasR
 | .block _ b=>b.hasR
 | .loop b=>b.hasR
 | .clean c=>c.hasR
 |_=>false
abbrev XQ:=XE→AS→Prop
def XQ.seq (f:AS→Prop) (Q:XQ):XQ
 | .normal,s=>f s
 | .exit i,s=>Q (.exit i) s
 | .ret,s=>Q .ret s
def XQ.blk (id:Nat) (Q:XQ):XQ
 | .exit i,s=>if i=id then Q .normal s else Q (.exit i) s
 | .normal,s=>Q .normal s
 | .ret,s=>Q .ret s
def condOf:AV→Option (Prop×Prop)
 | .val .bool b=>some (b=true,b=false)
 | .ub p q=>some (p,q)
 |_=>none
section
variable (P:Program) (C:List Ent)
def cleanS (st:AS):AS:=⟨st.kv.map fun k=>(k,tmG st.tm k),st.hp,st.nx,st.kv⟩
def isCall (x:XO):Bool:=match x.op,x.guard,x.args with
 | .callv,none,_::_=>true
 |_,_,_=>false
def bodyChk (f:FuncId) (n':Nat) (res:List XR) (chk:Code→Bool):Bool:=funcOk P f&&match P.funcs[f]? with
 |some fn=>fn.ntmps==n'&&resChk P n' fn.results.toList res&&match fn.body with
  |some c=>chk c
  |none=>false
 |none=>false
def entI (n':Nat) (kv:List Nat) (avs:List AV) (keep:List Nat) (st:AS):AS:=⟨numb 0 avs++keep.map (fun k=>(n'+k,tmG st.tm k)),st.hp,st.nx,kv++keep.map (n'+ ·)⟩
def exI (n':Nat) (kv0 keep:List Nat) (d:Option Nat) (v:AV) (s:AS):AS:=⟨setT (keep.map fun k=>(k,tmG s.tm (n'+k))) d v,s.hp,s.nx,kv0⟩
def oneAV:List AV→AV
 |[x]=>x
 |xs=>.tup xs
def backQ (n':Nat) (kv0 keep:List Nat) (d:Option Nat) (res:List XR) (K:AS→Prop):XQ
 | .exit _,_=>False
 |_,s=>match resAll s res with
  |some avs=>K (exI n' kv0 keep d (oneAV avs) s)
  |none=>False
def nextIs (o:Oper) (d t:Nat):Bool:=(match o.op with| .next (.tmp t') false=>t'==t|_=>false)&&o.dst==some d&&o.guard.isNone
def codeChk:Nat→Code→XC→Bool
 |n,code,.nxt d t post=>match code with
  | .region _ ops dr=>!dr&&decide (d<n)&&decide (t<n)&&(match ops.toList with|o::os=>nextIs o d t&&listChk P n ops os post|[]=>false)
  |_=>false
 |n,code,.clean x=>codeChk n code x
 |_,_,.dead=>true
 |n,code,.top x=>codeChk n code x
 |n,code,.rfor g p xA xB f n' _ body=>match code with
  | .rangeFunc g' ps' a b=>opOk g' g&&g.slot.all (· <n)&&ps'.toList==[p]&&codeChk n a xA&&codeChk n b xB&& !xA.hasR&& !xB.hasR&& !body.hasR&&bodyChk P f n' [] (fun c=>codeChk n' c body)
  |_=>false
 |n,code,.yld pre cx post _ _ _ _ xA xB=>match code with
  | .region _ ops d=>!d&&regChk P n ops false (pre++cx::post)&&isCall cx&& !xA.hasR&& !xB.hasR
  |_=>false
 |n,code,.icall d' pre cx post f n' res _ body=>match code with
  | .region _ ops d=>d==d'&&regChk P n ops d (pre++cx::post)&&isCall cx&&(!d||fullAst pre.length (cx::post))&& !body.hasR&&bodyChk P f n' res (fun c=>codeChk n' c body)
  |_=>false
 |n,code,.skip=>match code with
  | .skip=>true
  |_=>false
 |n,code,.reg d' xs=>match code with
  | .region _ ops d=>d==d'&&regChk P n ops d xs
  |_=>false
 |n,code,.seq x y=>match code with
  | .seq a b=>codeChk n a x&&codeChk n b y
  |_=>false
 |n,code,.cond c' x y=>match code with
  | .cond c a b=>opOk c c'&&c'.slot.all (· <n)&&codeChk n a x&&codeChk n b y
  |_=>false
 |n,code,.block j y=>match code with
  | .block i b=>i==j&&codeChk n b y
  |_=>false
 |n,code,.loop y=>match code with
  | .loop b=>codeChk n b y
  |_=>false
 |n,code,.exit j=>match code with
  | .exit i=>i==j
  |_=>false
 |n,code,.ret=>match code with
  | .ret=>true
  |_=>false
variable (n:Nat)
def lift (B:Nat) (M:Nat→Prop) (w0:Fix) (Q:XQ):Exit→Act→World→Prop
 | .normal,a,w=>∃s ψ,Sim P B M n s ψ w0 a w∧Q .normal s
 | .exit i,a,w=>∃s ψ,Sim P B M n s ψ w0 a w∧Q (.exit i) s
 | .ret,a,w=>∃s ψ,Sim P B M n s ψ w0 a w∧Q .ret s
 |_,_,_=>False
def XW (c:XC) (Q:XQ) (st:AS):Prop:=∀code,codeChk P n code c=true→(∀e∈C,Con P e)→∀B M (w0:Fix) ψ a w,Sim P B M n st ψ w0 a w→∀ro,(c.hasR=true→w0.dm=true∧ro=none)→code.wpIn (Fen ro) 0 P (lift P n B M w0 Q) a w
def AS.le (st s:AS):Prop:=∀B M (w0:Fix) ψ a w,Sim P B M n st ψ w0 a w→∃ψ',Sim P B M n s ψ' w0 a w
end
section
variable (P:Program) (C:List Ent)
def afterI (C:List Ent) (post:List XO) (Q:XQ) (s:AS):Prop:=match runT C s post with
 |some (p,s')=>p∧Q .normal s'
 |none=>False
def LoopOk (P:Program) (n p:Nat) (xA xB:XC) (r:Loop):Prop:=r.params.toList=[p]∧r.tmps.size=n∧codeChk P n r.assign xA=true∧codeChk P n r.body xB=true
def hasLp (s:AS) (t l:Nat) (busy:Bool) (r:Loop) (K:Prop):Prop:=match tmG s.tm t with
 | .yl l' _ _=>match look s.hp l with
  |some (.lp bs r')=>l'=l∧bs=busy∧r'=r∧K
  |_=>False
 |_=>False
def backR (n n':Nat) (kv0:List Nat) (l:Nat) (r:Loop) (Q:XQ):XQ
 | .exit _,_=>False
 |_,s=>hasLp s (n'+n) l false r (Q .normal ⟨kv0.map fun k=>(k,tmG s.tm (n'+k)),killL s.hp [l],s.nx,kv0⟩)
def ylOf (st:AS):AV:=.yl st.nx st.kv (st.kv.map (tmG st.tm))
def entR (n n':Nat) (kv:List Nat) (avs:List AV) (r:Loop) (st:AS):AS:=
 ⟨numb 0 (avs++[ylOf st])++((n'+n,ylOf st)::st.kv.map (fun k=>(n'+k,tmG st.tm k))),appL ⟨.top,[],some (st.nx,.lp false r)⟩ st.hp,st.nx+1,kv++((n'+n)::st.kv.map (n'+ ·))⟩
def XQ.rnd (f:AS→Prop):XQ
 | .normal,s=>f s
 |_,_=>False
def setLp (busy:Bool) (l:Nat) (r:Loop) (s:AS):AS:=⟨s.tm,appL ⟨.top,[],some (l,.lp busy r)⟩ s.hp,s.nx+1,s.kv⟩
def entY (nE p:Nat) (kvB:List Nat) (b:AV) (ks:List Nat) (avs:List AV) (keep:List Nat) (s:AS):AS:=
 ⟨(p,b)::(ks.zip avs++keep.map (fun k=>(nE+k,tmG s.tm k))),s.hp,s.nx,kvB++keep.map (nE+ ·)⟩
def nxF (st:AS) (d:Nat):AS:=⟨setT st.tm (some d) (.tup [.val .bool false]),st.hp,st.nx+1,st.kv⟩
def nxT (st:AS) (d l:Nat) (k:IntKind) (t:Ty) (left:List (Int×t.den)) (i:Nat) (p:Int×t.den):AS:=
 ⟨setT st.tm (some d) (.tup [.val .bool true,.val (.int k) p.1,.val t p.2]),appL ⟨.top,[],some (l,.it k t (left.eraseIdx i) (some p))⟩ st.hp,st.nx+1,st.kv⟩
def keepI (st:AS) (post:List XO):List Nat:=st.kv++post.flatMap XO.reads
def xwp:Nat→XC→XQ→AS→Prop
 |_,.skip,Q,st=>Q .normal st
 |_,.reg d xs,Q,st=>match runR C d st xs with
  |some (p,st')=>p∧Q .normal st'
  |none=>False
 |n,.seq a b,Q,st=>xwp n a (XQ.seq (xwp n b Q) Q) st
 |n,.cond c a b,Q,st=>match condOf (c.av st.tm) with
  |some t=>(t.1→xwp n a Q st)∧(t.2→xwp n b Q st)
  |none=>False
 |n,.block id b,Q,st=>xwp n b (XQ.blk id Q) st
 |n,.loop b,Q,st=>XW P C n (.loop b) Q st
 |_,.exit id,Q,st=>Q (.exit id) st
 |_,.ret,Q,st=>Q .ret st
 |n,.clean c,Q,st=>xwp n c Q (cleanS st)
 |_,.icall d pre cx post f n' res kv body,Q,st=>match runR C d st pre with
  |some (p,s1)=>p∧match cx.args.map (XA.av s1.tm) with
   | .clo f' cap::bs=>f'=f∧(bs++cap).length≤n'∧xwp n' body (backQ n' s1.kv (keepI s1 post) cx.dst res (afterI C post Q)) (entI n' kv (bs++cap) (keepI s1 post) s1)
   |_=>False
  |none=>False
 |_,.dead,_,_=>False
 |_,.nxt d t post,Q,st=>match tmG st.tm t with
  | .ptr l 0=>match look st.hp l with
   |some (.it k ty left _)=>(left=[]→afterI C post Q (nxF st d))∧∀i p,left[i]?=some p→afterI C post Q (nxT st d l k ty left i p)
   |_=>False
  |_=>False
 |n,.top c,Q,st=>XW P C n (.top c) Q st
 |n,.rfor g p xA xB f n' kv body,Q,st=>match g.av st.tm with
  | .bnd f' avs=>f'=f∧avs.length+1≤n'∧st.kv.all (· <n)=true∧p<n∧∀r,LoopOk P n p xA xB r→xwp n' body (backR n n' st.kv st.nx r Q) (entR n n' kv avs r st)
  |_=>False
 |_,.yld pre cx post ky nE p kvB xA xB,Q,st=>match runT C st pre with
  |some (q,s1)=>q∧match cx.args.map (XA.av s1.tm) with
   |[.yl l ks avs,b]=>match look s1.hp l with
    |some (.lp false r)=>LoopOk P nE p xA xB r∧p<nE∧ks.all (· <nE)=true∧s1.kv.contains ky=true∧hasLp s1 ky l false r
     (xwp nE xA (XQ.rnd fun s=>hasLp s (nE+ky) l false r (xwp nE xB (XQ.rnd fun s=>hasLp s (nE+ky) l true r (afterI C post Q (exI nE s1.kv (keepI s1 post) cx.dst (.val .bool true) (setLp false l r s)))) (setLp true l r s))) (entY nE p kvB b ks avs (keepI s1 post) s1))
    |_=>False
   |_=>False
  |none=>False
end
section
variable {P:Program} {C:List Ent} {n:Nat}
theorem lift_mono {B:Nat} {M:Nat→Prop} {w0:Fix} {Q Q':XQ} (h:∀e s,Q e s→Q' e s):∀e a w,lift P n B M w0 Q e a w→lift P n B M w0 Q' e a w:=by
 intro e a w q;cases e with
 |normal=>obtain ⟨s,ψ,h1,h2⟩:=q;exact ⟨s,ψ,h1,h _ _ h2⟩
 |exit i=>obtain ⟨s,ψ,h1,h2⟩:=q;exact ⟨s,ψ,h1,h _ _ h2⟩
 |ret=>obtain ⟨s,ψ,h1,h2⟩:=q;exact ⟨s,ψ,h1,h _ _ h2⟩
 |_=>exact q.elim
theorem Sim.cond {B:Nat} {M:Nat→Prop} {st:AS} {ψ:Nat→Value} {w0:Fix} {w:World} {a:Act} (s:Sim P B M n st ψ w0 a w) {c:Operand} {c':XA} (h:opOk c c'=true) (hn:c'.slot.all (· <n)=true) {t:Prop×Prop} (ht:condOf (c'.av st.tm)=some t):∃b,a.eval c= .bool b∧(b=true→t.1)∧(b=false→t.2):=by
 obtain ⟨e,hok⟩:=opOk_eq h;have:=SimF.arg s hok (fun k e=>by rw[e] at hn;simpa [XA.slot] using hn) (av:=c'.av st.tm) (by rw[av_avF];cases c'<;>rfl);rw[e];unfold condOf at ht;split at ht
 ·rename_i b hb;injection ht with ht;subst ht;rw[hb] at this;exact ⟨b,avr_bool this,id,id⟩
 ·rename_i p q hb;injection ht with ht;subst ht;rw[hb] at this;exact this
 ·cases ht
theorem tmG_map (f:Nat→AV):∀(l:List Nat) (t:Nat),tmG (l.map fun k=>(k,f k)) t=if t∈l then f t else .top
 |[],t=>by simp[tmG]
 |k::r,t=>by
  simp only[List.map_cons,tmG,List.mem_cons];by_cases e:t=k
  ·subst e;simp
  ·rw[if_neg e,tmG_map f r t];simp[e]
theorem clean_sim {B:Nat} {M:Nat→Prop} {st:AS} {ψ:Nat→Value} {w0:Fix} {w:World} {a:Act} (s:Sim P B M n st ψ w0 a w):Sim P B M n (cleanS st) ψ w0 a w:=by
 have key:∀t,tmG (cleanS st).tm t=if t∈st.kv then tmG st.tm t else .top:=fun t=>tmG_map _ _ _
 refine ⟨s.hok,fun t=>?_,s.size,s.defers,fun t l hl=>?_,s.hlt,s.bel⟩
 ·rw[key];split
  ·exact s.av t
  ·exact trivial
 ·rw[key] at hl;split at hl
  ·exact s.lt t l hl
  ·cases hl
theorem tmG_mem {l:List (Nat×AV)} {t:Nat}:tmG l t= .top∨(t,tmG l t)∈l:=by
 induction l with
 |nil=>exact .inl rfl
 |cons p r ih=>
  obtain ⟨k,v⟩:=p;simp only[tmG];split
  ·rename_i e;subst e;exact .inr (by simp)
  ·rcases ih with q|q
   ·exact .inl q
   ·exact .inr (by simp[q])
theorem tmG_avr {hp:Hp} {ψ:Nat→Value} {w:World} {M:Nat→Prop} {f:Nat→Value} {l:List (Nat×AV)} (h:∀p∈l,AVR P hp ψ w M p.2 (f p.1)) (t:Nat):AVR P hp ψ w M (tmG l t) (f t):=by
 rcases tmG_mem (l:=l) (t:=t) with q|q
 ·rw[q];exact trivial
 ·exact h _ q
theorem tmG_locs {l:List (Nat×AV)} {t k:Nat} (h:k∈(tmG l t).locs):∃p∈l,k∈p.2.locs:=by
 rcases tmG_mem (l:=l) (t:=t) with q|q
 ·rw[q] at h;cases h
 ·exact ⟨_,q,h⟩
theorem numb_mem:∀{l:List AV} {k:Nat} {p:Nat×AV},p∈numb k l→k≤p.1∧l[p.1-k]?=some p.2
 |[],k,p,h=>by cases h
 |x::l,k,p,h=>by
  simp only[numb] at h;rcases List.mem_cons.1 h with rfl|h
  ·simp
  ·obtain ⟨h1,h2⟩:=numb_mem h;refine ⟨by omega,?_⟩;rw[show p.1-k=(p.1-(k+1))+1 by omega];simpa using h2
theorem sval_shift {w0:Fix} {n n':Nat} {a a':Act} {sv:List Value} {W:World} {dm:Bool} {ms:List Deferred} (hsv:sv=(List.range n).map (fun t=>a.tmps.getD t undef)++w0.vs) (k:Nat):sval ⟨W,sv,dm,ms⟩ n' a' (n'+k)=sval w0 n a k:=by
 unfold sval;rw[if_neg (by omega),show n'+k-n'=k by omega,hsv];by_cases c:k<n
 ·rw[if_pos c,List.getD_eq_getElem?_getD,List.getElem?_append_left (by simpa using c)];simp[c]
 ·rw[if_neg c,List.getD_eq_getElem?_getD,List.getD_eq_getElem?_getD,List.getElem?_append_right (by simp;omega)];simp
theorem tmG_set {tm:List (Nat×AV)} {d:Option Nat} {v:AV} (t:Nat):tmG (setT tm d v) t=if d=some t then v else tmG tm t:=by
 rw[setT_get];cases d with
 |none=>simp[setF]
 |some d=>
  simp only[setF,Option.some.injEq];by_cases e:t=d
  ·subst e;simp
  ·rw[if_neg e,if_neg (Ne.symm e)]
theorem exI_sim {B:Nat} {M:Nat→Prop} {n n':Nat} {s1:AS} {ψ1:Nat→Value} {w1:World} {a a1:Act} {w0:Fix} {sv:List Value} {dm':Bool} (q1:Sim P B M n' s1 ψ1 ⟨w0.w,sv,dm',a.defers++w0.ms⟩ a1 w1) (hd1:a1.defers=[]) (hsize:a.tmps.size=n) (hdef:w0.dm=false→a.defers=[])
  (hsval:∀k,sval ⟨w0.w,sv,dm',a.defers++w0.ms⟩ n' a1 (n'+k)=sval w0 n a k) {d:Option Nat} (hd:inRange n d=true) {av:AV} {v:Value} (hav:AVR P (look s1.hp) ψ1 w1 (Mu M (look s1.hp) ψ1) av v) (havL:∀l∈av.locs,l<s1.nx) {kv0 keep:List Nat}:
  Sim P B M n (exI n' kv0 keep d av s1) ψ1 w0 (a.put d v) w1:=by
 refine ⟨q1.hok,fun t=>?_,?_,?_,fun t l hl=>?_,q1.hlt,q1.bel⟩
 ·show AVR P (look s1.hp) ψ1 w1 (Mu M (look s1.hp) ψ1) (tmG (setT (keep.map fun k=>(k,tmG s1.tm (n'+k))) d av) t) _
  rw[tmG_set,tmG_map (fun k=>tmG s1.tm (n'+k))]
  split
  ·rename_i hdt
   rw[hdt] at hd
   have hlt:t<n:=by simpa [inRange] using hd
   rw[hdt]
   simp only[Act.put,sval,if_pos hlt]
   have:t<a.tmps.size:=by rw[hsize];exact hlt
   simpa [this] using hav
  ·rename_i hdt
   split
   ·have h5:=q1.av (n'+t)
    rw[hsval] at h5
    have:sval w0 n (a.put d v) t=sval w0 n a t:=by
     cases hxd:d with
     |none=>rfl
     |some dd=>
      have hne:dd≠t:=fun e=>hdt (by rw[hxd,e]);simp only[sval,Act.put];split
      ·simp[Array.getElem?_setIfInBounds_ne hne]
      ·rfl
    rw[this];exact h5
   ·exact trivial
 ·have:(a.put d v).tmps.size=a.tmps.size:=by cases d<;>simp[Act.put]
  rw[this];exact hsize
 ·have:(a.put d v).defers=a.defers:=by cases d<;>rfl
  rw[this]
  refine ⟨hdef,?_⟩
  have:=q1.defers.2
  rwa [hd1,List.nil_append] at this
 ·have hl':l∈(tmG (setT (keep.map fun k=>(k,tmG s1.tm (n'+k))) d av) t).locs:=hl
  rw[tmG_set,tmG_map (fun k=>tmG s1.tm (n'+k))] at hl'
  split at hl'
  ·exact havL l hl'
  ·split at hl'
   ·exact q1.lt _ l hl'
   ·cases hl'
theorem sim_ctx {B:Nat} {M:Nat→Prop} {s:AS} {ψ:Nat→Value} {w0:Fix} {a:Act} {w:World} (h:Sim P B M n s ψ w0 a w):Ctx P B M (look s.hp) ψ w s.nx:=SimF.ctx h (Nat.lt_irrefl _)
theorem sim_lp {B:Nat} {M:Nat→Prop} {s:AS} {ψ:Nat→Value} {w0:Fix} {a:Act} {w:World} (h:Sim P B M n s ψ w0 a w) {l b:Nat} {b1 b2:Bool} {r:Loop} (hl:look s.hp l=some (.lp b1 r)) (hb:ψ l= .pointer (some ⟨b,0,none⟩)):
  ∃ψ',Sim P B M n (setLp b2 l r s) ψ' w0 a (w.putObj b (.loop (Loop.at b2 r))):=by
 have c:=sim_ctx h
 have hlb:blk (ψ l)=some b:=by rw[hb];rfl
 have hlt:=((c.hok.ob l _ hl).bk hlb)
 have post:OpPost P B M (look s.hp) ψ w s.nx ⟨.top,[],some (l,.lp b2 r)⟩ undef (w.putObj b (.loop (Loop.at b2 r))):=by
  refine c.write hl (show r=r from rfl) (by simp) rfl rfl rfl (by simp) (fun b' _ hne=>World.putObj_heap_other fun e=>hne (by rw[hlb,e])) (fun _=>?_) (fun _=>trivial);exact ⟨b,hb,hlt.1,World.putObj_heap_same hlt.2⟩
 obtain ⟨ψ',q⟩:=SimF.step (d:=none) (A':=fun l=>l<s.nx+1) h (Nat.lt_irrefl _) (fun t e=>by cases e) (fun l h=>Nat.lt_succ_of_lt h) (Nat.lt_succ_self _)
  (fun l' ob e=>by simp only[Option.some.injEq,Prod.mk.injEq] at e;rw[←e.1];exact Nat.lt_succ_of_lt (h.hlt l _ hl).1) (fun l' hl'=>by cases hl') (fun l' ob e k hk=>by simp only[Option.some.injEq,Prod.mk.injEq] at e;rw[←e.2] at hk;cases hk) post
 refine ⟨ψ',?_⟩
 unfold Sim setLp
 simp only[look_app]
 exact q
theorem Ctx.drop {B:Nat} {M:Nat→Prop} {hp:Hp} {ψ:Nat→Value} {w:World} {fr:Nat} (c:Ctx P B M hp ψ w fr) {l b:Nat} {ob:OB} (o:Obj) (hl:hp l=some ob) (hb:blk (ψ l)=some b):OpPost P B M hp ψ w fr ⟨.top,[l],none⟩ undef (w.putObj b o):=by
 refine Ctx.turn (ψ':=ψ) (tc:=[l]) c ?_ ?_ trivial
 ·rw[app_none];exact {
   os:=rfl,tape:=rfl,output:=rfl,size:=by simp
   same:=fun b' _ h=>World.putObj_heap_other fun e=>h l (by simp) ob hl (by rw[hb,e])
   psi:=fun _ _=>rfl
   new:=c.new
   rest:=fun l h _=>kill_not h
   kind:=fun l ob' _ h=>⟨ob',(kill_some h).2,like_refl _⟩
   lies:=fun l ob b h1 h2 _=>by
    obtain ⟨q1,q2⟩:=kill_some h2;rcases h1 with h1|rfl
    ·exact absurd h1 q1
    ·rw[c.new] at q2;cases q2
   one:=fun l l' ob ob' h1 _ h2 _=>by
    obtain ⟨q1,q2⟩:=kill_some h2;rcases h1 with h1|rfl
    ·exact absurd h1 q1
    ·rw[c.new] at q2;cases q2 }
 ·rw[app_none];intro l ob h1 h2;obtain ⟨q1,q2⟩:=kill_some h2;rcases h1 with h1|rfl
  ·exact absurd h1 q1
  ·rw[c.new] at q2;cases q2
theorem hasLp_at {B:Nat} {M:Nat→Prop} {s:AS} {ψ:Nat→Value} {w0:Fix} {a:Act} {w:World} (h:Sim P B M n s ψ w0 a w) {t l:Nat} {busy:Bool} {r:Loop} {K:Prop} (q:hasLp s t l busy r K) {b:Nat} (hv:sval w0 n a t= .func (.yield b) #[] #[]):
  K∧look s.hp l=some (.lp busy r)∧ψ l= .pointer (some ⟨b,0,none⟩)∧w.heap[b]?=some (.loop (Loop.at busy r)):=by
 unfold hasLp at q
 split at q
 ·rename_i l' ks avs ht
  split at q
  ·rename_i bs r' hl
   obtain ⟨rfl,rfl,rfl,q⟩:=q
   have h1:=h.av t
   rw[ht] at h1
   obtain ⟨T,_,h1⟩:=h1
   obtain ⟨b',e1,e2,_⟩:=h1 bs r' hl
   rw[hv] at e2
   simp only[Value.func.injEq,Fn.func.injEq,Fn.yield.injEq,and_true] at e2
   subst e2
   obtain ⟨b2,e3,_,hg⟩:=h.hok.ob l' _ hl
   rw[e1] at e3
   simp only[Value.pointer.injEq,Option.some.injEq,Addr.mk.injEq,and_true] at e3
   subst e3
   exact ⟨q,hl,e1,hg⟩
  ·exact q.elim
 ·exact q.elim
theorem tmG_numb:∀(l:List AV) (k t:Nat) (r:List (Nat×AV)),tmG (numb k l++r) t=if k≤t∧t<k+l.length then l.getD (t-k) .top else tmG r t
 |[],k,t,r=>by simp[numb];omega
 |x::l,k,t,r=>by
  simp only[numb,List.cons_append,tmG,List.length_cons];rw[tmG_numb l (k+1) t r];by_cases e:t=k
  ·subst e;simp
  ·rw[if_neg e];by_cases c:k+1≤t∧t<k+1+l.length
   ·rw[if_pos c,if_pos (by omega),show t-k=(t-(k+1))+1 by omega];rfl
   ·rw[if_neg c,if_neg (by omega)]
theorem tmG_keep (n':Nat) (f:Nat→AV):∀(l:List Nat) (t:Nat),tmG (l.map fun k=>(n'+k,f k)) t=if n'≤t∧t-n'∈l then f (t-n') else .top
 |[],t=>by simp[tmG]
 |k::r,t=>by
  simp only[List.map_cons,tmG];rw[tmG_keep n' f r t];by_cases e:t=n'+k
  ·subst e;simp
  ·rw[if_neg e];by_cases c:n'≤t∧t-n'∈r
   ·rw[if_pos c,if_pos ⟨c.1,by simp[c.2]⟩]
   ·rw[if_neg c,if_neg];rintro ⟨c1,c2⟩;rcases List.mem_cons.1 c2 with c2|c2
    ·exact e (by omega)
    ·exact c ⟨c1,c2⟩
theorem isCall_spec {x:XO} (h:isCall x=true):∃g args,x.op= .callv∧x.guard=none∧x.args=g::args:=by
 unfold isCall at h;split at h
 ·rename_i e1 e2 e3;exact ⟨_,_,e1,e2,e3⟩
 ·cases h
theorem locsL_mem {x:AV} {xs:List AV} (h:x∈xs) {l:Nat} (hl:l∈x.locs):l∈AV.locsL xs:=by
 induction xs with
 |nil=>cases h
 |cons y r ih=>
  simp only[AV.locsL,List.mem_append];rcases List.mem_cons.1 h with rfl|h
  ·exact .inl hl
  ·exact .inr (ih h)
theorem locsL_of {xs:List AV} {l:Nat} (h:l∈AV.locsL xs):∃x∈xs,l∈x.locs:=by
 induction xs with
 |nil=>simp[AV.locsL] at h
 |cons y r ih=>
  simp only[AV.locsL,List.mem_append] at h;rcases h with h|h
  ·exact ⟨y,by simp,h⟩
  ·obtain ⟨x,h1,h2⟩:=ih h;exact ⟨x,by simp[h1],h2⟩
theorem partOf_locs {t:Ty} {cs:List AV} {off:Nat} {av:AV} (h:partOf t cs off=some av):∀l∈av.locs,l∈AV.locsL cs:=by
 unfold partOf at h;intro l hl;split at h
 ·split at h
  ·injection h with h;subst h;simp only[AV.locs] at hl;obtain ⟨x,h1,h2⟩:=locsL_of hl;exact locsL_mem (List.mem_of_mem_drop (List.mem_of_mem_take h1)) h2
  ·cases h
 ·exact locsL_mem (List.mem_of_getElem? h) hl
theorem resAll_lt {P:Program} {B:Nat} {M:Nat→Prop} {n:Nat} {st:AS} {ψ:Nat→Value} {w0:Fix} {a:Act} {w:World} (s:Sim P B M n st ψ w0 a w):∀{xs:List XR} {avs:List AV},resAll st xs=some avs→∀av∈avs,∀l∈av.locs,l<st.nx
 |[],avs,h=>by simp only[resAll,Option.some.injEq] at h;subst h;intro av hav;cases hav
 |x::xs,avs,h=>by
  simp only[resAll] at h;split at h
  ·cases h
  ·rename_i a0 h0;split at h
   ·cases h
   ·rename_i as' h1;injection h with h;subst h;intro av hav l hl;rcases List.mem_cons.1 hav with rfl|hav
    ·cases x with
     |tmp t=>
      simp only[resAV,Option.some.injEq] at h0;rw[←h0] at hl;exact s.lt t l hl
     |cell t ty=>
      simp only[resAV] at h0;split at h0
      ·rename_i l0 e0;split at h0
       ·rename_i U cs hb;exact (s.hlt l0 _ hb).2 l (partOf_locs h0 l hl)
       ·cases h0
      ·cases h0
    ·exact resAll_lt s h1 av hav l hl
theorem call_here {ro:Option Nat} {P:Program} {C:List Ent} {n:Nat} {ops:Array Oper} (hC:∀e∈C,Con P e) {x:XO} {o:Oper} (hchk:xoChk P ops o x=true) (hd:inRange n x.dst=true) (hrd:x.reads.all (· <n)=true) (hok:x.args.all XA.okB=true) (h2:isCall x=true)
  {f:FuncId} {n':Nat} {res:List XR} {kv kv0 keep:List Nat} {body:XC} (h4:bodyChk P f n' res (fun c=>codeChk P n' c body)=true) {B:Nat} {M:Nat→Prop} {st:AS} {ψ:Nat→Value} {w0:Fix} {a:Act} {w:World} (s:Sim P B M n st ψ w0 a w)
  {bs cap:List AV} (hargs:x.args.map (XA.av st.tm)= .clo f cap::bs) (hlen:(bs++cap).length≤n') {K0:AS→Prop} (hnr:body.hasR=false) (hx:XW P C n' body (backQ n' kv0 keep x.dst res K0) (entI n' kv (bs++cap) keep st))
  {K:Act→World→Prop} {Q:Exit→Act→World→Prop} (hK:∀s' ψ' a' w',Sim P B M n s' ψ' w0 a' w'→K0 s'→K a' w'):
  Up ro P ops o a w K Q:=by
 unfold Up
 obtain ⟨g,args,e1,e2,e3⟩:=isCall_spec h2
 unfold xoChk at hchk
 simp only[Bool.and_eq_true,beq_iff_eq] at hchk
 obtain ⟨⟨hdst,hgc⟩,hop⟩:=hchk
 rw[e2] at hgc
 cases hog:o.guard with
 |some _=>rw[hog] at hgc;simp[guardChk] at hgc
 |none=>
  have hw:Region.wanted o (yielded ops a.tmps)=true:=by simp[Region.wanted,hog]
  rw[if_pos hw]
  rw[e1,e3] at hop
  cases ho:o.op<;>rw[ho] at hop<;>(try (simp[opChk] at hop;done))
  rename_i cl
  obtain ⟨cal,As,ts⟩:=cl
  cases cal<;>(try (simp[opChk] at hop;done))
  rename_i Y
  simp only[opChk,Bool.and_eq_true] at hop
  obtain ⟨h0,h1⟩:=hop
  obtain ⟨eY0,_⟩:=opOk_eq h0
  have hv:=s.args hok (by unfold XO.reads at hrd;rw[List.all_append,Bool.and_eq_true] at hrd;exact hrd.1)
  rw[show x.args.map (avF (tmG st.tm))=x.args.map (XA.av st.tm) from List.map_congr_left fun z _=>(av_avF _ _).symm,hargs,e3,List.map_cons] at hv
  obtain ⟨v0,r0,er,q,hv2⟩:=hv
  simp only[List.cons.injEq] at er
  obtain ⟨rfl,rfl⟩:=er
  have hm:=opsOk_eq h1
  rw[show (fun z:XA=>a.eval z.opnd)=a.eval ∘ XA.opnd from rfl,←List.map_map,←hm] at hv2
  rw[←eY0] at q
  obtain ⟨us,eY,qc⟩:=q
  unfold bodyChk at h4
  simp only[Bool.and_eq_true] at h4
  obtain ⟨hfo,h4⟩:=h4
  split at h4
  ·rename_i fn hfn
   simp only[Bool.and_eq_true,beq_iff_eq] at h4
   obtain ⟨⟨hn,hres⟩,h4⟩:=h4
   split at h4
   ·rename_i c hc
    have hvs:=hv2.append qc
    obtain ⟨vs,hvs'⟩:∃vs,vs=As.toList.map a.eval++us.toList:=⟨_,rfl⟩
    rw[←hvs'] at hvs
    have hlv:vs.length=(bs++cap).length:=hvs.len
    obtain ⟨sv,hsv⟩:∃sv,sv=(List.range n).map (fun t=>a.tmps.getD t undef)++w0.vs:=⟨_,rfl⟩
    have hsval:∀(a':Act) k,sval ⟨w0.w,sv,false,a.defers++w0.ms⟩ n' a' (n'+k)=sval w0 n a k:=fun a' k=>sval_shift hsv k
    have hsim:Sim P B M n' (entI n' kv (bs++cap) keep st) ψ ⟨w0.w,sv,false,a.defers++w0.ms⟩ { tmps:=vs.toArray++Array.replicate (fn.ntmps-vs.toArray.size) undef,defers:=[] } w:=by
     have hget:∀t,tmG (entI n' kv (bs++cap) keep st).tm t=if t<(bs++cap).length then (bs++cap).getD t .top else if n'≤t∧t-n'∈keep then tmG st.tm (t-n') else .top:=fun t=>by
      show tmG (numb 0 (bs++cap)++keep.map fun k=>(n'+k,tmG st.tm k)) t=_;rw[tmG_numb,tmG_keep];simp
     refine ⟨s.hok,fun t=>?_,by simp[hn];omega,⟨fun _=>rfl,s.defers.2⟩,fun t l hl=>?_,s.hlt,s.bel⟩
     ·rw[hget t];by_cases c1:t<(bs++cap).length
      ·rw[if_pos c1];obtain ⟨v,hv,hq⟩:=hvs.at (i:=t) (av:=(bs++cap)[t]) (by simp[c1]);have e1:(bs++cap).getD t .top=(bs++cap)[t]:=by
        rw[List.getD_eq_getElem?_getD,List.getElem?_eq_getElem c1];rfl
       have e2:(vs.toArray++Array.replicate (fn.ntmps-vs.toArray.size) undef).getD t undef=v:=by
        have hlt:t<vs.length:=(List.getElem?_eq_some_iff.1 hv).1;simp only[Array.getD_eq_getD_getElem?];rw[Array.getElem?_append_left (by simpa using hlt)];simp[hv]
       rw[e1,sval,if_pos (by omega),e2];exact hq
      ·rw[if_neg c1];by_cases c2:n'≤t∧t-n'∈keep
       ·rw[if_pos c2];have:=s.av (t-n');rw[←hsval { tmps:=vs.toArray++Array.replicate (fn.ntmps-vs.toArray.size) undef,defers:=[] } (t-n'),show n'+(t-n')=t by omega] at this;exact this
       ·rw[if_neg c2];exact trivial
     ·rw[hget t] at hl;by_cases c1:t<(bs++cap).length
      ·rw[if_pos c1,List.getD_eq_getElem?_getD,List.getElem?_eq_getElem c1] at hl;simp only[Option.getD_some] at hl;have hmem:(bs++cap)[t]∈bs++cap:=List.getElem_mem c1;have hall:=s.argLocs (zs:=x.args) l;rw[show x.args.map (avF (tmG st.tm))=x.args.map (XA.av st.tm) from List.map_congr_left fun z _=>(av_avF _ _).symm,hargs] at hall;refine hall ?_;simp only[AV.locsL,AV.locs,List.mem_append];rcases List.mem_append.1 hmem with hm'|hm'
       ·exact .inr (locsL_mem hm' hl)
       ·exact .inl (locsL_mem hm' hl)
      ·rw[if_neg c1] at hl;split at hl
       ·exact s.lt _ l hl
       ·cases hl
    refine callf_ok (R:=fun v w'=>∃s' ψ',Sim P B M n s' ψ' w0 (a.put o.dst v) w'∧K0 s') ho eY hfo ?_ ro K Q (fun v w' ⟨s',ψ',hs,hq⟩=>hK s' ψ' _ w' hs hq)
    rw[show As.map a.eval++us=vs.toArray by rw[hvs'];apply Array.ext';simp]
    refine calls_of_wp hfn hc (wp_mono (wpIn_wide.1 (hx c h4 hC B M ⟨w0.w,sv,false,a.defers++w0.ms⟩ ψ _ w hsim none (fun q=>by rw[hnr] at q;cases q))) ?_)
    have fin:∀(s1:AS) (ψ1:Nat→Value) (a1:Act) (w1:World),Sim P B M n' s1 ψ1 ⟨w0.w,sv,false,a.defers++w0.ms⟩ a1 w1→(match resAll s1 res with|some avs=>K0 (exI n' kv0 keep x.dst (oneAV avs) s1)|none=>False)→
      a1.defers=[]∧∃v,(results fn a1.tmps).run P w1= .ok v w1∧∃v',Ending.returned v= .returned v'∧∃s' ψ',Sim P B M n s' ψ' w0 (a.put o.dst v') w1∧K0 s':=by
     intro s1 ψ1 a1 w1 q1 hfin
     split at hfin
     ·rename_i avs havs
      obtain ⟨vs',hrun,hav⟩:=results_run q1 hres havs
      refine ⟨q1.defers.1 rfl,_,hrun,_,rfl,_,ψ1,?_,hfin⟩
      have hone:AVR P (look s1.hp) ψ1 w1 (Mu M (look s1.hp) ψ1) (oneAV avs) (if h:vs'.toArray.size=1 then vs'.toArray[0] else .tuple vs'.toArray):=by
       have hl:=hav.len;unfold oneAV;split
       ·rename_i av;obtain ⟨v,rfl,hq⟩:=avr1 hav;simpa using hq
       ·rename_i hne;have h1:¬vs'.toArray.size=1:=fun h=>by
         rw[List.size_toArray,hl] at h;obtain ⟨av,rfl⟩:=List.length_eq_one_iff.1 h;exact hne av rfl
        rw[dif_neg h1];exact ⟨vs'.toArray,rfl,by simpa using hav⟩
      have honeL:∀l∈(oneAV avs).locs,l<s1.nx:=fun l hl=>by
       have:∀av∈avs,∀l∈av.locs,l<s1.nx:=resAll_lt q1 havs;unfold oneAV at hl;split at hl
       ·rename_i av;exact this av (by simp) l hl
       ·simp only[AV.locs] at hl;obtain ⟨av,h1,h2⟩:=locsL_of hl;exact this av h1 l h2
      rw[hdst]
      exact exI_sim q1 (q1.defers.1 rfl) s.size s.defers.1 (hsval a1) hd hone honeL
     ·exact hfin.elim
    intro ex a1 w1 q
    cases ex with
    |normal=>obtain ⟨s1,ψ1,q1,q2⟩:=q;exact fin s1 ψ1 a1 w1 q1 q2
    |ret=>obtain ⟨s1,ψ1,q1,q2⟩:=q;exact fin s1 ψ1 a1 w1 q1 q2
    |exit i=>obtain ⟨s1,ψ1,q1,q2⟩:=q;exact q2.elim
    |_=>exact q.elim
   ·cases h4
  ·cases h4
theorem listChk_split {P:Program} {n:Nat} {ops:Array Oper}:∀{xs ys:List XO} {os:List Oper},listChk P n ops os (xs++ys)=true→∃o1 o2,os=o1++o2∧listChk P n ops o1 xs=true∧listChk P n ops o2 ys=true∧o1.length=xs.length
 |[],ys,os,h=>⟨[],os,rfl,rfl,h,rfl⟩
 |x::xs,ys,os,h=>by
  cases os with
  |nil=>simp[listChk] at h
  |cons o os=>
   simp only[List.cons_append,listChk,Bool.and_eq_true] at h;obtain ⟨h1,h2⟩:=h;obtain ⟨o1,o2,rfl,k1,k2,k3⟩:=listChk_split h2;exact ⟨o::o1,o2,rfl,by simp only[listChk,Bool.and_eq_true];exact ⟨h1,k1⟩,k2,by simp[k3]⟩
theorem icall_ok {ro:Option Nat} {P:Program} {C:List Ent} {n:Nat} {ops:Array Oper} {id:Nat} (hC:∀e∈C,Con P e) {d:Bool} {pre post:List XO} {cx:XO} {f:FuncId} {n':Nat} {res:List XR} {kv:List Nat} {body:XC} (h1:regChk P n ops d (pre++cx::post)=true) (h2:isCall cx=true)
  (h3:(!d||fullAst pre.length (cx::post))=true) (h4:bodyChk P f n' res (fun c=>codeChk P n' c body)=true) {B:Nat} {M:Nat→Prop} {st s1:AS} {ψ:Nat→Value} {w0:Fix} {a:Act} {w:World} {p:Prop} (hr:runR C d st pre=some (p,s1)) (hp':p)
  {bs cap:List AV} (hargs:cx.args.map (XA.av s1.tm)= .clo f cap::bs) (hlen:(bs++cap).length≤n') {Q:XQ} (hnr:body.hasR=false) (hx:XW P C n' body (backQ n' s1.kv (keepI s1 post) cx.dst res (afterI C post Q)) (entI n' kv (bs++cap) (keepI s1 post) s1))
  (s:Sim P B M n st ψ w0 a w) {R:Exit→Act→World→Prop} (hQ:∀s' ψ' a' w',Sim P B M n s' ψ' w0 a' w'→Q .normal s'→R .normal a' w'):(Code.region id ops d).wpIn (Fen ro) 0 P R a w:=by
 unfold regChk at h1
 simp only[Bool.and_eq_true] at h1
 obtain ⟨hl,h1⟩:=h1
 obtain ⟨o1,o2,eo,k1,k2,k3⟩:=listChk_split hl
 cases o2 with
 |nil=>simp[listChk] at k2
 |cons o o2=>
 simp only[listChk,Bool.and_eq_true] at k2
 obtain ⟨⟨⟨⟨c1,c2⟩,c3⟩,c4⟩,k2⟩:=k2
 have hlen2:o2.length=post.length:=by have:=(listChk_at (ops:=ops) (n:=n) (P:=P) k2).1;exact this
 have hok:ops[o1.length]?=some o:=by
  rw[←Array.getElem?_toList,eo,List.getElem?_append_right (Nat.le_refl _)];simp
 cases d with
 |false=>
  unfold runR at hr
  simp only[Bool.false_eq_true,if_false] at hr
  refine wpIn_region ?_
  have hsz:ops.size=o1.length+(o2.length+1):=by
   rw[←Array.length_toList,eo];simp
  rw[List.range_eq_range',hsz,←List.range'_append_1,Nat.zero_add,List.range'_succ]
  refine runT_tail hC o1 pre 0 (o::o2) _ (by simpa using eo) k1 hr hp' s fun ψ1 a1 w1 q1=>?_
  unfold wpOpsIn
  rw[hok]
  refine up_ops (call_here hC c1 c2 c3 c4 h2 h4 q1 hargs hlen hnr hx fun s' ψ' a' w' q2 hq=>?_)
  unfold afterI at hq
  split at hq
  ·rename_i p2 s2 hr2
   exact runT_ok hC o2 post (o1.length+1) (by rw[eo,←List.drop_drop];simp) k2 hr2 hq.1 q2 fun ψ3 a3 w3 q3=>hQ s2 ψ3 a3 w3 q3 hq.2
  ·exact hq.elim
 |true=>
  simp only[Bool.not_true,Bool.false_or,Bool.and_eq_true] at h1
  obtain ⟨⟨m1,m2⟩,m3⟩:=h1
  unfold runR at hr
  simp only[if_true] at hr
  split at hr
  ·cases hr
  ·rename_i p2 st2 ts hD
   split at hr
   ·rename_i hokD
    simp only[Option.some.injEq,Prod.mk.injEq] at hr
    obtain ⟨rfl,rfl⟩:=hr
    have hsz:ops.size=(pre++cx::post).length:=by
     rw[←Array.length_toList,eo];simp[k3,hlen2]
    have hfa:fullAst pre.length (cx::post)=true:=by simpa using h3
    have hfull:∀i x,pre.length≤i→(pre++cx::post)[i]?=some x→∀z,z<i→z∈x.ast:=by
     intro i x hi hx z hz;rw[List.getElem?_append_right hi] at hx;exact fullAst_at hfa _ _ hx z (by omega)
    refine region_Dp hC eo k1 hsz m1 m2 m3 hfa hD hp' hokD s fun fuel listed ψ1 a1 w1 hs hf hl q1=>?_
    refine forced_step hsz m3 hfull hs hl (Nat.le_refl _) hf (by rw[←k3];exact hok) fun fuel' listed' hs' hf' hl'=>?_
    refine call_here hC c1 c2 c3 c4 h2 h4 q1 hargs hlen hnr hx fun s' ψ' a' w' q2 hq=>?_
    unfold afterI at hq
    split at hq
    ·rename_i p2 s2 hr2
     exact forced_run hC hsz m3 hfull o2 post (pre.length+1) (by rw[eo,←k3,←List.drop_drop];simp) (by omega) k2 hr2 hq.1 q2 (fun ψ3 a3 w3 q3=>hQ s2 ψ3 a3 w3 q3 hq.2) fuel' listed' hs' hf' hl'
    ·exact hq.elim
   ·cases hr
theorem zip_mem {α β:Type}:∀{l:List α} {m:List β} {p:α×β},p∈l.zip m→∃i:Nat,l[i]?=some p.1∧m[i]?=some p.2
 |[],_,p,h=>by simp at h
 |_::_,[],p,h=>by simp at h
 |x::l,y::m,p,h=>by
  rw[List.zip_cons_cons] at h;rcases List.mem_cons.1 h with rfl|h
  ·exact ⟨0,rfl,rfl⟩
  ·obtain ⟨i,h1,h2⟩:=zip_mem h;exact ⟨i+1,by simpa using h1,by simpa using h2⟩
theorem post_ok {P:Program} {C:List Ent} {n:Nat} {ops:Array Oper} {os:List Oper} {j:Nat} {post:List XO} (hC:∀e∈C,Con P e) (hj:ops.toList.drop j=os) (hchk:listChk P n ops os post=true) {Q:XQ} {st:AS} (h:afterI C post Q st)
  {B:Nat} {M:Nat→Prop} {w0:Fix} {ψ:Nat→Value} {a:Act} {w:World} (s:Sim P B M n st ψ w0 a w) (ro:Option Nat):wpOpsIn (Fen ro) 0 P ops (lift P n B M w0 Q) (List.range' j os.length) a w:=by
 unfold afterI at h
 split at h
 ·rename_i p s' hr
  exact runT_ok (ro:=ro) hC os post j hj hchk hr h.1 s fun ψ' a' w' hs=>⟨s',ψ',hs,h.2⟩
 ·exact h.elim
theorem nxt_ok {P:Program} {C:List Ent} {n:Nat} {ops:Array Oper} {id d t:Nat} {post:List XO} (hC:∀e∈C,Con P e) (hd:d<n) (ht:t<n) (hops:(match ops.toList with|o::os=>nextIs o d t&&listChk P n ops os post|[]=>false)=true) {Q:XQ} {st:AS} {l:Nat} {k:IntKind} {ty:Ty} {left:List (Int×ty.den)} {cur:Option (Int×ty.den)}
  (htm:tmG st.tm t= .ptr l 0) (hl:look st.hp l=some (.it k ty left cur)) (h:(left=[]→afterI C post Q (nxF st d))∧∀i p,left[i]?=some p→afterI C post Q (nxT st d l k ty left i p))
  {B:Nat} {M:Nat→Prop} {w0:Fix} {ψ:Nat→Value} {a:Act} {w:World} (s:Sim P B M n st ψ w0 a w) {ro:Option Nat}:(Code.region id ops false).wpIn (Fen ro) 0 P (lift P n B M w0 Q) a w:=by
 split at hops
 case h_2=>cases hops
 rename_i o os hos
 rw[Bool.and_eq_true] at hops
 obtain ⟨h1,h2⟩:=hops
 unfold nextIs at h1
 simp only[Bool.and_eq_true,beq_iff_eq,Option.isNone_iff_eq_none] at h1
 obtain ⟨⟨h1,hdst⟩,hgd⟩:=h1
 split at h1<;>(try (cases h1;done))
 rename_i t' ho
 simp only[beq_iff_eq] at h1
 subst h1
 have hsz:ops.size=os.length+1:=by rw[←Array.length_toList,hos];rfl
 have hok:ops[0]?=some o:=by rw[←Array.getElem?_toList,hos];rfl
 have hdr:ops.toList.drop 1=os:=by rw[hos];rfl
 have hX:=SimF.at s ht
 rw[htm] at hX
 have hw:Region.wanted o (yielded ops a.tmps)=true:=by simp[Region.wanted,hgd]
 refine wpIn_region ?_
 rw[hsz,List.range_eq_range',List.range'_succ]
 simp only[wpOpsIn,hok]
 refine up_ops ?_
 unfold Up
 rw[if_pos hw]
 refine next_ok (fr:=st.nx) ho hX hl (s.ctx (Nat.lt_irrefl _)) ro _ _ fun v w' hR=>?_
 rw[hdst]
 rcases hR with ⟨h0,hp⟩|⟨i,p,hi,hp⟩
 ·obtain ⟨ψ',hs⟩:=s.step (d:=some d) (A':=fun l=>l<st.nx+1) (Nat.lt_irrefl _) (fun _ e=>by injection e with e;subst e;exact hd) (fun _ h=>Nat.lt_succ_of_lt h) (Nat.lt_succ_self _) (fun _ _ e=>by cases e) (fun _ h=>by simp[pur,AV.locs,AV.locsL] at h) (fun _ _ e=>by cases e) hp
  refine post_ok hC hdr h2 (h.1 h0) (ψ:=ψ') ?_ ro
  show SimF _ _ _ (tmG (setT st.tm (some d) _)) _ (look st.hp) _ _ _ _ _
  rw[setT_get]
  rwa [show (pur (.tup [.val .bool false])).app (look st.hp)=look st.hp from app_nil] at hs
 ·have hln:=(s.hlt l _ hl).1
  obtain ⟨ψ',hs⟩:=s.step (d:=some d) (A':=fun l=>l<st.nx+1) (Nat.lt_irrefl _) (fun _ e=>by injection e with e;subst e;exact hd) (fun _ h=>Nat.lt_succ_of_lt h) (Nat.lt_succ_self _) (fun l' _ e=>by injection e with e;injection e with e e';subst e;exact Nat.lt_succ_of_lt hln) (fun _ h=>by simp[AV.locs,AV.locsL] at h) (fun _ _ e k hk=>by injection e with e;injection e with e e';subst e';cases hk) hp
  refine post_ok hC hdr h2 (h.2 i p hi) (ψ:=ψ') ?_ ro
  unfold Sim nxT
  dsimp only
  rw[setT_get,look_app]
  exact hs
theorem yld_ok {P:Program} {C:List Ent} {n:Nat} {ops:Array Oper} {id:Nat} (hC:∀e∈C,Con P e) {pre post:List XO} {cx:XO} {ky nE p:Nat} {kvB:List Nat} {xA xB:XC} (h1:regChk P n ops false (pre++cx::post)=true) (h2:isCall cx=true) (hA:xA.hasR=false) (hB:xB.hasR=false)
  {B:Nat} {M:Nat→Prop} {st s1:AS} {ψ:Nat→Value} {w0:Fix} {a:Act} {w:World} {q:Prop} (hr:runT C st pre=some (q,s1)) (hp':q) {l:Nat} {ks:List Nat} {avs:List AV} {bv:AV} (hargs:cx.args.map (XA.av s1.tm)=[.yl l ks avs,bv]) {r:Loop}
  (hlo:LoopOk P nE p xA xB r) (hpn:p<nE) (hks:ks.all (· <nE)=true) (hky:ky∈s1.kv) (ofA:∀(Q':XQ) (s':AS),xwp P C nE xA Q' s'→XW P C nE xA Q' s') (ofB:∀(Q':XQ) (s':AS),xwp P C nE xB Q' s'→XW P C nE xB Q' s') {Q:XQ}
  (hx:hasLp s1 ky l false r (xwp P C nE xA (XQ.rnd fun s=>hasLp s (nE+ky) l false r (xwp P C nE xB (XQ.rnd fun s=>hasLp s (nE+ky) l true r (afterI C post Q (exI nE s1.kv (keepI s1 post) cx.dst (.val .bool true) (setLp false l r s)))) (setLp true l r s))) (entY nE p kvB bv ks avs (keepI s1 post) s1)))
  (s:Sim P B M n st ψ w0 a w) {R:Exit→Act→World→Prop} {ro:Option Nat} (hQ:∀s' ψ' a' w',Sim P B M n s' ψ' w0 a' w'→Q .normal s'→R .normal a' w'):(Code.region id ops false).wpIn (Fen ro) 0 P R a w:=by
 unfold regChk at h1
 simp only[Bool.and_eq_true] at h1
 obtain ⟨hl,h1⟩:=h1
 obtain ⟨o1,o2,eo,k1,k2,k3⟩:=listChk_split hl
 cases o2 with
 |nil=>simp[listChk] at k2
 |cons o o2=>
 simp only[listChk,Bool.and_eq_true] at k2
 obtain ⟨⟨⟨⟨c1,c2⟩,c3⟩,c4⟩,k2⟩:=k2
 have hok:ops[o1.length]?=some o:=by
  rw[←Array.getElem?_toList,eo,List.getElem?_append_right (Nat.le_refl _)];simp
 refine wpIn_region ?_
 have hsz:ops.size=o1.length+(o2.length+1):=by
  rw[←Array.length_toList,eo];simp
 rw[List.range_eq_range',hsz,←List.range'_append_1,Nat.zero_add,List.range'_succ]
 refine runT_tail hC o1 pre 0 (o::o2) _ (by simpa using eo) k1 hr hp' s fun ψ1 a1 w1 q1=>?_
 unfold wpOpsIn
 rw[hok]
 refine up_ops ?_
 obtain ⟨g,args,e1,e2,e3⟩:=isCall_spec h2
 unfold xoChk at c1
 simp only[Bool.and_eq_true,beq_iff_eq] at c1
 obtain ⟨⟨hdst,hgc⟩,hop⟩:=c1
 rw[e2] at hgc
 unfold Up
 cases hog:o.guard with
 |some _=>rw[hog] at hgc;simp[guardChk] at hgc
 |none=>
 have hw:Region.wanted o (yielded ops a1.tmps)=true:=by simp[Region.wanted,hog]
 rw[if_pos hw]
 rw[e1,e3] at hop
 cases ho:o.op<;>rw[ho] at hop<;>(try (simp[opChk] at hop;done))
 rename_i cl
 obtain ⟨cal,As,ts⟩:=cl
 cases cal<;>(try (simp[opChk] at hop;done))
 rename_i Y
 simp only[opChk,Bool.and_eq_true] at hop
 obtain ⟨h0,h1'⟩:=hop
 obtain ⟨eY0,_⟩:=opOk_eq h0
 have hv:=q1.args c4 (by unfold XO.reads at c3;rw[List.all_append,Bool.and_eq_true] at c3;exact c3.1)
 rw[show cx.args.map (avF (tmG s1.tm))=cx.args.map (XA.av s1.tm) from List.map_congr_left fun z _=>(av_avF _ _).symm,hargs,e3,List.map_cons] at hv
 obtain ⟨v0,r0,er,qy,v1,r1,er1,qb,er2⟩:=hv
 simp only[List.cons.injEq] at er
 obtain ⟨rfl,rfl⟩:=er
 subst er2
 have hm:=opsOk_eq h1'
 have hAs:As.map a1.eval= #[v1]:=by
  apply Array.ext';rw[Array.toList_map,hm,List.map_map];exact er1
 rw[←eY0] at qy
 obtain ⟨T,hT,hyl⟩:=qy
 unfold hasLp at hx
 split at hx
 case h_2=>exact hx.elim
 rename_i l' ks' avs' hky'
 split at hx
 case h_2=>exact hx.elim
 rename_i bs r' hl0
 obtain ⟨rfl,rfl,rfl,hx⟩:=hx
 obtain ⟨b,eψ,eY,eT⟩:=hyl _ _ hl0
 obtain ⟨b2,e3',hBb,hg⟩:=q1.hok.ob _ _ hl0
 rw[eψ] at e3'
 simp only[Value.pointer.injEq,Option.some.injEq,Addr.mk.injEq,and_true] at e3'
 subst e3'
 have hyky:sval w0 n a1 ky= .func (.yield b) #[] #[]:=by
  have:=q1.av ky;rw[hky'] at this;obtain ⟨_,_,h3⟩:=this;obtain ⟨b3,e4,e5,_⟩:=h3 _ _ hl0;rw[eψ] at e4;simp only[Value.pointer.injEq,Option.some.injEq,Addr.mk.injEq,and_true] at e4;subst e4;exact e5
 obtain ⟨lp1,lp2,lp3,lp4⟩:=hlo
 obtain ⟨tmps',htm⟩:∃tmps',tmps'=r'.tmps.setIfInBounds p v1:=⟨_,rfl⟩
 refine ⟨fun _ _=>trivial,?_⟩
 have hrun:(execOp a1.eval o).run P w1= .ok (.round b r'.fn tmps' r'.assign r'.body) w1:=by
  have hy:=run_yield (P:=P) (args:=#[v1]) hg (by show 1=r'.params.size;rw[←Array.length_toList,lp1];rfl);unfold execOp;simp only[ho];have hpar:r'.params= #[p]:=by apply Array.ext';simpa using lp1
  simp only[resolve,Deferred.ofValue,invoke,eY,hAs];simp[hy,Loop.at,hpar,htm]
 rw[Oper.semAt_eq _ _ _ (by rw[ho];intro c hc;cases hc),hrun]
 rw[Oper.uponIn_round]
 refine ⟨fun q=>(by cases q),roundIn_of_wpIn (F:=Fen ro) trivial ?_⟩
 obtain ⟨sv,hsv⟩:∃sv,sv=(List.range n).map (fun t=>a1.tmps.getD t undef)++w0.vs:=⟨_,rfl⟩
 have hsval:∀(a':Act) k,sval ⟨w0.w,sv,false,a1.defers++w0.ms⟩ nE a' (nE+k)=sval w0 n a1 k:=fun a' k=>sval_shift hsv k
 have hts:tmps'.size=nE:=by rw[htm,Array.size_setIfInBounds,lp2]
 have simY:Sim P B M nE (entY nE p kvB bv ks avs (keepI s1 post) s1) ψ1 ⟨w0.w,sv,false,a1.defers++w0.ms⟩ { tmps:=tmps',defers:=[] } w1:=by
  refine ⟨q1.hok,fun t=>?_,hts,⟨fun _=>rfl,q1.defers.2⟩,fun t k hk=>?_,q1.hlt,q1.bel⟩
  ·by_cases cp:t=p
   ·subst cp;show AVR P _ ψ1 w1 _ (if t=t then bv else _) _;rw[if_pos rfl];by_cases ct:t<nE
    ·rw[sval,if_pos ct,htm];have:t<r'.tmps.size:=by omega
     rw[show (r'.tmps.setIfInBounds t v1).getD t undef=v1 by simp[this]];exact qb
    ·exact absurd hpn ct
   ·show AVR P _ ψ1 w1 _ (if t=p then bv else tmG (ks.zip avs++(keepI s1 post).map fun k=>(nE+k,tmG s1.tm k)) t) _;rw[if_neg cp];rcases tmG_mem (l:=ks.zip avs++(keepI s1 post).map fun k=>(nE+k,tmG s1.tm k)) (t:=t) with h|h
    ·rw[h];exact trivial
    ·generalize tmG (ks.zip avs++(keepI s1 post).map fun k=>(nE+k,tmG s1.tm k)) t=x at h⊢;rcases List.mem_append.1 h with h|h
     ·obtain ⟨i,h3,h4⟩:=zip_mem h;simp only at h3 h4;have ht:t<nE:=by
       rw[List.all_eq_true] at hks;simpa using hks t (List.mem_of_getElem? h3)
      obtain ⟨v,hv,hq⟩:=hT.at h4;rw[List.getElem?_map,h3] at hv;simp only[Option.map_some,Option.some.injEq] at hv;rw[sval,if_pos ht,htm];have:(r'.tmps.setIfInBounds p v1).getD t undef=v:=by
       rw[←hv,←eT];simp[Array.getElem?_setIfInBounds_ne (Ne.symm cp)]
      rw[this];exact hq
     ·obtain ⟨k,hk,e⟩:=List.mem_map.1 h;simp only[Prod.mk.injEq] at e;obtain ⟨rfl,rfl⟩:=e;rw[hsval];exact q1.av k
  ·obtain ⟨x,hx,hk⟩:=tmG_locs (l:=(p,bv)::(ks.zip avs++(keepI s1 post).map fun k=>(nE+k,tmG s1.tm k))) hk;have hall:=fun l hl=>q1.argLocs (zs:=cx.args) l hl;rw[show cx.args.map (avF (tmG s1.tm))=cx.args.map (XA.av s1.tm) from List.map_congr_left fun z _=>(av_avF _ _).symm,hargs] at hall;rcases List.mem_cons.1 hx with rfl|hx
   ·exact hall k (by simp only[AV.locsL,List.mem_append];exact .inr (.inl hk))
   ·rcases List.mem_append.1 hx with hx|hx
    ·obtain ⟨i,_,h4⟩:=zip_mem hx;exact hall k (by simp only[AV.locsL,AV.locs,List.mem_append,List.mem_cons];exact .inl (.inr (locsL_mem (List.mem_of_getElem? h4) hk)))
    ·obtain ⟨k',hk',rfl⟩:=List.mem_map.1 hx;exact q1.lt k' k hk
 have hkyv:∀a',sval ⟨w0.w,sv,false,a1.defers++w0.ms⟩ nE a' (nE+ky)= .func (.yield b) #[] #[]:=fun a'=>by rw[hsval];exact hyky
 refine wpIn_mono (ofA _ _ hx r'.assign lp3 hC B M _ ψ1 _ w1 simY (some b) (fun q=>by rw[hA] at q;cases q)) fun e a2 w2 q2=>?_
 cases e with
 |normal=>
  obtain ⟨s2,ψ2,q2,q3⟩:=q2
  obtain ⟨q3,hl2,eψ2,hg2⟩:=hasLp_at q2 q3 (hkyv a2)
  obtain ⟨ψ3,q4⟩:=sim_lp (b2:=true) q2 hl2 eψ2
  refine ⟨_,run_beginRound hg2 rfl,?_⟩
  refine wpIn_mono (ofB _ _ q3 r'.body lp4 hC B M _ ψ3 _ _ q4 (some b) (fun q=>by rw[hB] at q;cases q)) fun e a3 w3 q5=>?_
  cases e with
  |normal=>
   obtain ⟨s3,ψ4,q5,q6⟩:=q5
   obtain ⟨q6,hl3,eψ3,hg3⟩:=hasLp_at q5 q6 (hkyv a3)
   obtain ⟨ψ5,q7⟩:=sim_lp (b2:=false) q5 hl3 eψ3
   refine ⟨_,_,run_endRound none hg3,?_⟩
   have q8:=exI_sim (keep:=keepI s1 post) (kv0:=s1.kv) q7 (q7.defers.1 rfl) q1.size q1.defers.1 (hsval a3) (d:=cx.dst) c2 (av:=.val .bool true) (v:=.bool true) bool_avr (fun l hl=>by cases hl)
   rw[hdst]
   unfold afterI at q6
   split at q6
   ·rename_i p2 s9 hr2
    exact runT_ok hC o2 post (o1.length+1) (by rw[eo,←List.drop_drop];simp) k2 hr2 q6.1 q8 fun ψ6 a6 w6 q9=>hQ s9 ψ6 a6 w6 q9 q6.2
   ·exact q6.elim
  |exit i=>obtain ⟨_,_,_,q6⟩:=q5;exact q6.elim
  |ret=>obtain ⟨_,_,_,q6⟩:=q5;exact q6.elim
  |_=>exact q5.elim
 |exit i=>obtain ⟨_,_,_,q3⟩:=q2;exact q3.elim
 |ret=>obtain ⟨_,_,_,q3⟩:=q2;exact q3.elim
 |_=>exact q2.elim
theorem heap_two {w:World} {x y:Obj}:((w.alloc x).alloc y).heap[w.heap.size+1]?=some y:=by
 have:=World.alloc_heap_new (w.alloc x) y;rwa [World.size_alloc] at this
theorem rfor_ok {P:Program} {C:List Ent} {n:Nat} (hC:∀e∈C,Con P e) {g':Operand} {g:XA} {ps':Array Tmp} {ca cb:Code} {p:Nat} {xA xB:XC} {f:FuncId} {n':Nat} {kv:List Nat} {body:XC} (h1:opOk g' g=true) (hn:g.slot.all (· <n)=true) (h2:ps'.toList=[p]) (h3:codeChk P n ca xA=true) (h4:codeChk P n cb xB=true)
  (hnr:body.hasR=false) (h8:bodyChk P f n' [] (fun c=>codeChk P n' c body)=true) {B:Nat} {M:Nat→Prop} {st:AS} {ψ:Nat→Value} {w0:Fix} {a:Act} {w:World} {avs:List AV} (hg:g.av st.tm= .bnd f avs) (hlen:avs.length+1≤n') (hkv:st.kv.all (· <n)=true) {Q:XQ}
  (hx:∀r,LoopOk P n p xA xB r→XW P C n' body (backR n n' st.kv st.nx r Q) (entR n n' kv avs r st)) (s:Sim P B M n st ψ w0 a w) (hdm:w0.dm=true) {R:Exit→Act→World→Prop} (hQ:∀s' ψ' a' w',Sim P B M n s' ψ' w0 a' w'→Q .normal s'→R .normal a' w'):
  (Code.rangeFunc g' ps' ca cb).wpIn (Fen none) 0 P R a w:=by
 refine wpIn_rangeFunc fun fn _=>?_
 obtain ⟨eg,gok⟩:=opOk_eq h1
 have hgv:=SimF.arg s gok (fun k e=>by rw[e] at hn;simpa [XA.slot] using hn) (av:=g.av st.tm) (by rw[av_avF];cases g<;>rfl)
 rw[hg,←eg] at hgv
 obtain ⟨us,eY,qus⟩:=hgv
 unfold bodyChk at h8
 simp only[Bool.and_eq_true] at h8
 obtain ⟨hfo,h8⟩:=h8
 split at h8
 case h_2=>cases h8
 rename_i fd hfd
 simp only[Bool.and_eq_true,beq_iff_eq] at h8
 obtain ⟨⟨hnt,hres⟩,h8⟩:=h8
 split at h8
 case h_2=>cases h8
 rename_i c hc
 obtain ⟨r,hr⟩:∃r:Loop,r={ state:=.ready,pending:=none,fn:=fn,tmps:=a.tmps,params:=ps',assign:=ca,body:=cb,defers:=w.heap.size }:=⟨_,rfl⟩
 have hlo:LoopOk P n p xA xB r:=by
  rw[hr];exact ⟨h2,s.size,h3,h4⟩
 obtain ⟨mk,hmk⟩:∃mk:List Deferred,mk=[{ target:=.collected w.heap.size,args:=#[] }]:=⟨_,rfl⟩
 have c0:=sim_ctx s
 have bd:Below w.heap.size w (w.alloc (.deferred (some []))):=(Below.refl w.heap.size w).alloc (Nat.le_refl _) _
 have t1:Turn P B M (look st.hp) ψ w [] st.nx (look st.hp) ψ (w.alloc (.deferred (some []))):=Turn.quiet bd c0.new
 have k1:=t1.hok c0.hok c0.obs (fun l ob h1 h2=>by
  rcases h1 with h1|rfl
  ·cases h1
  ·rw[c0.new] at h2;cases h2)
 have hmark:AVR P (look st.hp) ψ (w.alloc (.deferred (some []))) (Mu M (look st.hp) ψ) (.frz (.deferred (some []))) (.pointer (some ⟨w.heap.size,0,none⟩)):=
  ⟨_,rfl,by simp,fun q=>Nat.lt_irrefl _ (c0.hok.mu _ q),World.alloc_heap_new w _⟩
 have c1:Ctx P B M (look st.hp) ψ (w.alloc (.deferred (some []))) st.nx:=⟨k1,c0.new,c0.obs⟩
 obtain ⟨W,hW⟩:∃W,W=(w.alloc (.deferred (some []))).alloc (.loop r):=⟨_,rfl⟩
 have hWr:W.heap[w.heap.size+1]?=some (.loop r):=by rw[hW];exact heap_two
 have hat:r=Loop.at false r:=by rw[hr];rfl
 have bl:Below (w.alloc (.deferred (some []))).heap.size (w.alloc (.deferred (some []))) W:=by rw[hW];exact (Below.refl _ _).alloc (Nat.le_refl _) _
 obtain ⟨ψ2,q1,q2,q3,q4⟩:=c1.fresh (av:=.ptr st.nx 0) (v:=.pointer (some ⟨w.heap.size+1,0,none⟩)) (u:=.pointer (some ⟨w.heap.size+1,0,none⟩)) (ks:=[]) (ob:=.lp false r) bl
  (fun b hb=>by simp only[blk,Option.some.injEq] at hb;subst hb;rw[hW];simp)
  (fun _=>⟨_,by rw[upd'_same],by rw[←World.size_alloc w (.deferred (some [])) ];exact Nat.le_trans c0.hok.bz (Nat.le_of_lt (by simp)),by rw[←hat];exact hWr⟩)
  (fun _ ob _=>⟨_,by rw[upd'_same],rfl⟩)
 have hhp:(Eff.mk (.ptr st.nx 0) [] (some (st.nx,.lp false r))).app (look st.hp)=look (entR n n' kv avs r st).hp:=by
  show _=look (appL ⟨.top,[],some (st.nx,.lp false r)⟩ st.hp);rw[look_app];rfl
 rw[hhp] at q1 q3 q4
 have hlk:look (entR n n' kv avs r st).hp st.nx=some (.lp false r):=by
  rw[←hhp,app_put,putHp_same]
 obtain ⟨b,eψ,eb⟩:=q3 _ hlk
 simp only[Value.pointer.injEq,Option.some.injEq,Addr.mk.injEq,and_true] at eb
 subst eb
 have keep:∀{av:AV} {u:Value},st.nx∉av.locs→AVR P (look st.hp) ψ w (Mu M (look st.hp) ψ) av u→AVR P (look (entR n n' kv avs r st).hp) ψ2 W (Mu M (look (entR n n' kv avs r st).hp) ψ2) av u:=fun hf q=>q4 _ _ hf (t1.av c0.hok hf q)
 have hmarks:Marks P B (look (entR n n' kv avs r st).hp) ψ2 W (Mu M (look (entR n n' kv avs r st).hp) ψ2) ((mk++a.defers)++w0.ms):=by
  rw[List.append_assoc,hmk];refine ⟨fun d hd=>?_,?_⟩
  ·rcases List.mem_append.1 hd with hd|hd
   ·rw[List.mem_singleton] at hd;exact ⟨_,hd,c0.hok.bz,q4 _ _ (by simp[AV.locs]) hmark⟩
   ·obtain ⟨b,e,hB,q⟩:=s.defers.2.1 d hd;exact ⟨b,e,hB,keep (by simp[AV.locs]) q⟩
  ·rw[List.singleton_append,List.pairwise_cons];refine ⟨fun d hd=>?_,s.defers.2.2⟩;obtain ⟨b,e,hB,b2,e2,hlt,_⟩:=s.defers.2.1 d hd;simp only[Value.pointer.injEq,Option.some.injEq,Addr.mk.injEq,and_true] at e2;subst e2;rw[e];intro q;simp only[Target.collected.injEq] at q;omega
 obtain ⟨vs,hvs⟩:∃vs,vs=us++ #[Value.func (.yield (w.heap.size+1)) #[] #[]]:=⟨_,rfl⟩
 have hul:us.toList.length=avs.length:=qus.len
 obtain ⟨sv,hsv⟩:∃sv,sv=(List.range n).map (fun t=>a.tmps.getD t undef)++[Value.func (.yield (w.heap.size+1)) #[] #[]]:=⟨_,rfl⟩
 have hin:∀k∈st.kv,k<n:=fun k hk=>by rw[List.all_eq_true] at hkv;simpa using hkv k hk
 have hsval:∀(a':Act) k,k<n→sval ⟨w0.w,sv,false,(mk++a.defers)++w0.ms⟩ n' a' (n'+k)=a.tmps.getD k undef:=fun a' k hk=>by
  unfold sval;rw[if_neg (by omega),show n'+k-n'=k by omega,hsv,List.getD_eq_getElem?_getD,List.getElem?_append_left (by simpa using hk)];simp[hk]
 have hsvy:∀(a':Act),sval ⟨w0.w,sv,false,(mk++a.defers)++w0.ms⟩ n' a' (n'+n)= .func (.yield (w.heap.size+1)) #[] #[]:=fun a'=>by
  unfold sval;rw[if_neg (by omega),show n'+n-n'=n by omega,hsv,List.getD_eq_getElem?_getD,List.getElem?_append_right (by simp)];simp
 have hnl:∀t,st.nx∉(tmG st.tm t).locs:=fun t hm=>Nat.lt_irrefl _ (s.lt t _ hm)
 have hyl:AVR P (look (entR n n' kv avs r st).hp) ψ2 W (Mu M (look (entR n n' kv avs r st).hp) ψ2) (ylOf st) (.func (.yield (w.heap.size+1)) #[] #[]):=by
  refine ⟨a.tmps,?_,fun bs r' hl=>?_⟩
  ·have:∀(l:List Nat),(∀k∈l,k<n)→AVRs P (look (entR n n' kv avs r st).hp) ψ2 W (Mu M (look (entR n n' kv avs r st).hp) ψ2) (l.map (tmG st.tm)) (l.map fun k=>a.tmps.getD k undef):=by
    intro l;induction l with
    |nil=>intro _;exact rfl
    |cons k l ih=>intro h;exact ⟨_,_,rfl,keep (hnl k) (SimF.at s (h k (by simp))),ih fun k' hk'=>h k' (by simp[hk'])⟩
   exact this _ hin
  ·rw[hlk] at hl;simp only[Option.some.injEq,OB.lp.injEq] at hl;obtain ⟨_,rfl⟩:=hl;exact ⟨_,eψ,rfl,by rw[hr]⟩
 have hgl:∀l,l∈AV.locsL avs→l<st.nx:=fun l hl=>by
  have:=s.argLocs (zs:=[g]) l;refine this ?_;rw[show [g].map (avF (tmG st.tm))=[g].map (XA.av st.tm) from List.map_congr_left fun z _=>(av_avF _ _).symm];simp only[List.map_cons,List.map_nil,AV.locsL,hg,AV.locs,List.mem_append];exact .inl hl
 have hylL:∀l,l∈(ylOf st).locs→l<st.nx+1:=fun l hl=>by
  simp only[ylOf,AV.locs,List.mem_cons] at hl;rcases hl with rfl|hl
  ·omega
  ·obtain ⟨x,hx,hl⟩:=locsL_of hl;obtain ⟨k,_,rfl⟩:=List.mem_map.1 hx;exact Nat.lt_succ_of_lt (s.lt k l hl)
 have hsz:vs.size=avs.length+1:=by rw[hvs];simp[←hul]
 have simR:Sim P B M n' (entR n n' kv avs r st) ψ2 ⟨w0.w,sv,false,(mk++a.defers)++w0.ms⟩ { tmps:=vs++Array.replicate (fd.ntmps-vs.size) undef,defers:=[] } W:=by
  refine ⟨q1,fun t=>tmG_avr (f:=sval _ n' _) (fun x hx=>?_) t,by simp[hnt,hsz];omega,⟨fun _=>rfl,hmarks⟩,fun t l hl=>?_,fun l ob hl=>?_,s.bel.trans ((Stay.of bd c0.hok.bz).trans (Stay.of bl (Nat.le_trans c0.hok.bz (by simp))))⟩
  ·rcases List.mem_append.1 hx with hx|hx
   ·obtain ⟨_,hx⟩:=numb_mem hx;rw[Nat.sub_zero] at hx;have hlt:x.1<avs.length+1:=by have:=(List.getElem?_eq_some_iff.1 hx).1;simpa using this
    have hget:(vs++Array.replicate (fd.ntmps-vs.size) undef).getD x.1 undef=vs.getD x.1 undef:=by
     simp only[Array.getD_eq_getD_getElem?];rw[Array.getElem?_append_left (by omega)]
    rw[sval,if_pos (by omega),hget,hvs];by_cases c:x.1<avs.length
    ·rw[List.getElem?_append_left c] at hx;obtain ⟨v,hv,hq⟩:=qus.at hx;have:(us++ #[Value.func (.yield (w.heap.size+1)) #[] #[]]).getD x.1 undef=v:=by
      simp only[Array.getD_eq_getD_getElem?];rw[Array.getElem?_append_left (by rw[←Array.length_toList];omega),←Array.getElem?_toList,hv];rfl
     rw[this];exact keep (fun hm=>Nat.lt_irrefl _ (hgl _ (locsL_mem (List.mem_of_getElem? hx) hm))) hq
    ·have hxe:x.1=avs.length:=by omega
     rw[hxe,List.getElem?_append_right (Nat.le_refl _),Nat.sub_self] at hx;simp only[List.getElem?_cons_zero,Option.some.injEq] at hx;have:(us++ #[Value.func (.yield (w.heap.size+1)) #[] #[]]).getD x.1 undef=Value.func (.yield (w.heap.size+1)) #[] #[]:=by
      simp only[Array.getD_eq_getD_getElem?];rw[Array.getElem?_append_right (by rw[←Array.length_toList];omega),show x.1-us.size=0 by rw[←Array.length_toList];omega];rfl
     rw[this,←hx];exact hyl
   ·rcases List.mem_cons.1 hx with rfl|hx
    ·rw[hsvy];exact hyl
    ·obtain ⟨k,hk,rfl⟩:=List.mem_map.1 hx;simp only;rw[hsval _ _ (hin k hk)];exact keep (hnl k) (SimF.at s (hin k hk))
  ·obtain ⟨x,hx,hl⟩:=tmG_locs hl;show l<st.nx+1;rcases List.mem_append.1 hx with hx|hx
   ·obtain ⟨_,hx⟩:=numb_mem hx;rcases List.mem_append.1 (List.mem_of_getElem? hx) with hx|hx
    ·exact Nat.lt_succ_of_lt (hgl _ (locsL_mem hx hl))
    ·rw[List.mem_singleton] at hx;rw[hx] at hl;exact hylL l hl
   ·rcases List.mem_cons.1 hx with rfl|hx
    ·exact hylL l hl
    ·obtain ⟨k,hk,rfl⟩:=List.mem_map.1 hx;exact Nat.lt_succ_of_lt (s.lt k l hl)
  ·rw[←hhp,app_put] at hl;by_cases e:l=st.nx
   ·subst e;rw[putHp_same] at hl;injection hl with hl;subst hl;exact ⟨Nat.lt_succ_self _,fun k hk=>by cases hk⟩
   ·rw[putHp_other _ _ e,kill_nil] at hl;obtain ⟨h1,h2⟩:=s.hlt l ob hl;exact ⟨Nat.lt_succ_of_lt h1,fun k hk=>Nat.lt_succ_of_lt (h2 k hk)⟩
 have hent:(Instr.enterLoop fn a.tmps ps' ca cb (Fen none).round).run P w= .ok (w.heap.size+1,mk) W:=by
  rw[hW,hmk,hr];exact run_enterLoop_outer fn a.tmps ps' ca cb
 have hinv:∃d,(resolve a.eval (rangeCall g' (w.heap.size+1)) 0).run P W= .ok d W∧(invoke d.target d.args).run P W= .ok (.enter f vs) W:=by
  unfold funcOk at hfo;rw[hfd] at hfo;simp only[Bool.and_eq_true,bne_iff_ne] at hfo;refine ⟨{ target:=.fn (.func f) #[],args:=us++ #[Value.func (.yield (w.heap.size+1)) #[] #[]] },?_,?_⟩
  ·have e:resolve a.eval (rangeCall g' (w.heap.size+1)) 0=Deferred.ofValue (a.eval g') #[Value.func (.yield (w.heap.size+1)) #[] #[]]:=by
    simp only[resolve,rangeCall];congr 1;simp[Act.eval]
   rw[e,eY];simp[Deferred.ofValue]
  ·simp[invoke,callFunc,hfd,hfo.1,hc,hvs]
 obtain ⟨d,hres',hinv⟩:=hinv
 refine ⟨w.heap.size+1,mk,W,d,W,f,vs,W,hent,hres',fun _ _=>trivial,hinv,fun q=>(by cases q),fen_calls (calls_of_wp hfd hc (wp_mono (wpIn_wide.1 (hx r hlo c h8 hC B M _ ψ2 _ W simR none (fun q=>by rw[hnr] at q;cases q))) ?_))⟩
 have fin:∀(s4:AS) (ψ4:Nat→Value) (a4:Act) (w4:World),Sim P B M n' s4 ψ4 ⟨w0.w,sv,false,(mk++a.defers)++w0.ms⟩ a4 w4→hasLp s4 (n'+n) st.nx false r (Q .normal ⟨st.kv.map fun k=>(k,tmG s4.tm (n'+k)),killL s4.hp [st.nx],s4.nx,st.kv⟩)→
   a4.defers=[]∧∃v,(results fd a4.tmps).run P w4= .ok v w4∧rangePost (Fen none) 0 P (w.heap.size+1) R { a with defers:=mk++a.defers } (.returned v) w4:=by
  intro s4 ψ4 a4 w4 q5 q6
  obtain ⟨q6,hl4,eψ4,hg4⟩:=hasLp_at q5 q6 (hsvy a4)
  obtain ⟨vs',hrun,_⟩:=results_run q5 (avs:=[]) hres rfl
  refine ⟨q5.defers.1 rfl,_,hrun,_,_,run_endLoop hg4 (by simp[Loop.at]),?_⟩
  obtain ⟨ψ5,p1,p2,_,p4⟩:=(sim_ctx q5).drop (.loop { Loop.at false r with state:=.exhausted }) hl4 (show blk (ψ4 st.nx)=some (w.heap.size+1) by rw[eψ4];rfl)
  rw[app_none,←look_kill] at p1 p4
  refine hQ _ ψ5 _ _ ⟨p1,fun t=>?_,s.size,⟨fun q=>(by rw[hdm] at q;cases q),?_⟩,fun t l hl=>?_,fun l ob hl=>?_,q5.bel.trans p2⟩ q6
  ·rw[tmG_map (fun k=>tmG s4.tm (n'+k))]
   split
   ·rename_i hk
    have h5:=q5.av (n'+t)
    rw[hsval _ _ (hin t hk)] at h5
    rw[sval,if_pos (hin t hk)]
    exact p4 _ _ (fun hm=>Nat.lt_irrefl _ (q5.lt _ _ hm)) h5
   ·exact trivial
  ·have:=q5.defers.2
   rw[q5.defers.1 rfl,List.nil_append] at this
   exact this.map fun u q=>p4 _ _ (by simp[AV.locs]) q
  ·rw[tmG_map (fun k=>tmG s4.tm (n'+k))] at hl
   split at hl
   ·exact q5.lt _ l hl
   ·cases hl
  ·rw[look_kill] at hl
   exact q5.hlt l ob (kill_some hl).2
 intro ex a1 w1 q
 cases ex with
 |normal=>obtain ⟨s1,ψ1,q1,q2⟩:=q;exact fin s1 ψ1 a1 w1 q1 q2
 |ret=>obtain ⟨s1,ψ1,q1,q2⟩:=q;exact fin s1 ψ1 a1 w1 q1 q2
 |exit i=>obtain ⟨s1,ψ1,q1,q2⟩:=q;exact q2.elim
 |_=>exact q.elim
theorem XW_of {P:Program} {C:List Ent}:∀{n:Nat} {c:XC} {Q:XQ} {st:AS},xwp P C n c Q st→XW P C n c Q st
 |n,.clean c,Q,st,h=>fun code hc hC B M w0 ψ a w s ro hR=>XW_of (c:=c) h code hc hC B M w0 ψ a w (clean_sim s) ro hR
 |n,.skip,Q,st,h=>fun code hc hC B M w0 ψ a w s ro hR=>by
  cases code<;>simp[codeChk] at hc;exact wpIn_skip ⟨st,ψ,s,h⟩
 |n,.ret,Q,st,h=>fun code hc hC B M w0 ψ a w s ro hR=>by
  cases code<;>simp[codeChk] at hc;exact wpIn_ret ⟨st,ψ,s,h⟩
 |n,.exit i,Q,st,h=>fun code hc hC B M w0 ψ a w s ro hR=>by
  cases code<;>simp[codeChk] at hc;subst hc;exact wpIn_exit ⟨st,ψ,s,h⟩
 |n,.loop b,Q,st,h=>h
 |n,.reg d xs,Q,st,h=>fun code hc hC B M w0 ψ a w s ro hR=>by
  cases code<;>simp only[codeChk,Bool.and_eq_true,beq_iff_eq,reduceCtorEq,Bool.false_eq_true] at hc;rename_i id ops d';obtain ⟨rfl,hc⟩:=hc;unfold regChk at hc;simp only[Bool.and_eq_true] at hc;obtain ⟨h1,h2⟩:=hc;unfold xwp at h;split at h
  ·rename_i p st' hr;unfold runR at hr;cases d' with
   |false=>
    simp only[Bool.false_eq_true,if_false] at hr;exact region_T hC h1 hr h.1 s fun ψ' a' w' hs=>⟨st',ψ',hs,h.2⟩
   |true=>
    simp only[if_true] at hr;split at hr
    ·cases hr
    ·rename_i p2 st2 ts hD;split at hr
     ·rename_i hok;simp only[Option.some.injEq,Prod.mk.injEq] at hr;obtain ⟨rfl,rfl⟩:=hr;simp only[Bool.not_true,Bool.false_or,Bool.and_eq_true] at h2;exact region_D hC h1 h2.1.1 h2.1.2 h2.2 hD h.1 hok s fun ψ' a' w' hs=>⟨_,ψ',hs,h.2⟩
     ·cases hr
  ·exact h.elim
 |n,.seq x y,Q,st,h=>fun code hc hC B M w0 ψ a w s ro hR=>by
  cases code<;>simp[codeChk] at hc;refine wpIn_seq (wpIn_mono (XW_of (c:=x) h _ hc.1 hC B M w0 ψ a w s ro (fun q=>hR (by simp[XC.hasR,q]))) fun e a' w' q=>?_);cases e with
  |normal=>obtain ⟨s',ψ',h1,h2⟩:=q;exact XW_of (c:=y) h2 _ hc.2 hC B M w0 ψ' a' w' h1 ro (fun q=>hR (by simp[XC.hasR,q]))
  |exit i=>exact q
  |ret=>exact q
  |_=>exact q.elim
 |n,.cond c x y,Q,st,h=>fun code hc hC B M w0 ψ a w s ro hR=>by
  cases code<;>simp only[codeChk,Bool.and_eq_true,reduceCtorEq,Bool.false_eq_true] at hc;obtain ⟨⟨⟨h1,hn⟩,h2⟩,h3⟩:=hc;unfold xwp at h;split at h
  ·rename_i t ht;obtain ⟨b,e0,t1,t2⟩:=s.cond h1 hn ht;refine wpIn_cond e0 ?_;cases b with
   |true=>exact XW_of (c:=x) (h.1 (t1 rfl)) _ h2 hC B M w0 ψ a w s ro (fun q=>hR (by simp[XC.hasR,q]))
   |false=>exact XW_of (c:=y) (h.2 (t2 rfl)) _ h3 hC B M w0 ψ a w s ro (fun q=>hR (by simp[XC.hasR,q]))
  ·exact h.elim
 |n,.block id b,Q,st,h=>fun code hc hC B M w0 ψ a w s ro hR=>by
  cases code<;>simp[codeChk] at hc;rename_i i0 b0;obtain ⟨e0,hc⟩:=hc;subst e0;refine wpIn_block (wpIn_mono (XW_of (c:=b) h _ hc hC B M w0 ψ a w s ro hR) fun e a' w' q=>?_);cases e with
  |normal=>exact q
  |exit i=>
   obtain ⟨s',ψ',h1,h2⟩:=q;simp only[XQ.blk] at h2;simp only[Exit.inBlock];by_cases e:i=i0
   ·rw[if_pos e] at h2⊢;exact ⟨s',ψ',h1,h2⟩
   ·rw[if_neg e] at h2⊢;exact ⟨s',ψ',h1,h2⟩
  |ret=>exact q
  |_=>exact q.elim
 |n,.icall d pre cx post f n' res kv body,Q,st,h=>fun code hc hC B M w0 ψ a w s ro hR=>by
  cases code<;>simp only[codeChk,Bool.and_eq_true,beq_iff_eq,reduceCtorEq,Bool.false_eq_true] at hc;rename_i id ops d';obtain ⟨⟨⟨⟨⟨rfl,h1⟩,h2⟩,h3⟩,hnr⟩,h4⟩:=hc;have hnr:body.hasR=false:=by simpa using hnr
  unfold xwp at h;split at h
  ·rename_i p s1 hr;obtain ⟨hp',h⟩:=h;split at h
   ·rename_i f' cap bs hargs;obtain ⟨rfl,hlen,h⟩:=h;exact icall_ok hC h1 h2 h3 h4 hr hp' hargs hlen hnr (XW_of (c:=body) h) s fun s' ψ' a' w' hs hq=>⟨s',ψ',hs,hq⟩
   ·exact h.elim
  ·exact h.elim
 |n,.dead,Q,st,h=>h.elim
 |n,.nxt d t post,Q,st,h=>fun code hc hC B M w0 ψ a w s ro hR=>by
  cases code<;>simp only[codeChk,Bool.and_eq_true,reduceCtorEq,Bool.false_eq_true] at hc;rename_i id ops dr;obtain ⟨⟨⟨h0,hd⟩,ht⟩,h2⟩:=hc;have h0:dr=false:=by simpa using h0
  subst h0;unfold xwp at h;split at h
  ·rename_i l htm;split at h
   ·rename_i k ty left cur hl;exact nxt_ok hC (by simpa using hd) (by simpa using ht) h2 htm hl h s
   ·exact h.elim
  ·exact h.elim
 |n,.top c,Q,st,h=>h
 |n,.rfor g p xA xB f n' kv body,Q,st,h=>fun code hc hC B M w0 ψ a w s ro hR=>by
  cases code<;>simp only[codeChk,Bool.and_eq_true,beq_iff_eq,reduceCtorEq,Bool.false_eq_true] at hc;rename_i g' ps' ca cb;obtain ⟨⟨⟨⟨⟨⟨⟨⟨h1,hn⟩,h2⟩,h3⟩,h4⟩,h5⟩,h6⟩,h7⟩,h8⟩:=hc;unfold xwp at h;split at h
  ·rename_i f' avs hg;obtain ⟨rfl,hlen,hkv,hp,h⟩:=h;obtain ⟨hdm,rfl⟩:=hR rfl;exact rfor_ok hC h1 hn h2 h3 h4 (by simpa using h7) h8 hg hlen hkv (fun r hr=>XW_of (c:=body) (h r hr)) s hdm fun s' ψ' a' w' hs hq=>⟨s',ψ',hs,hq⟩
  ·exact h.elim
 |n,.yld pre cx post ky nE p kvB xA xB,Q,st,h=>fun code hc hC B M w0 ψ a w s ro hR=>by
  cases code<;>simp only[codeChk,Bool.and_eq_true,reduceCtorEq,Bool.false_eq_true] at hc;rename_i id ops d';obtain ⟨⟨⟨⟨h0,h1⟩,h2⟩,h3⟩,h4⟩:=hc;have h0:d'=false:=by simpa using h0
  subst h0;unfold xwp at h;split at h
  ·rename_i q s1 hr;obtain ⟨hp',h⟩:=h;split at h
   ·rename_i l ks avs b hargs;split at h
    ·rename_i r hl;obtain ⟨hlo,hpn,hks,hky,h⟩:=h;exact yld_ok hC h1 h2 (by simpa using h3) (by simpa using h4) hr hp' hargs hlo hpn hks (by simpa using hky)
      (fun _ _ h=>XW_of (c:=xA) h) (fun _ _ h=>XW_of (c:=xB) h) h s fun s' ψ' a' w' hs hq=>⟨s',ψ',hs,hq⟩
    ·exact h.elim
   ·exact h.elim
  ·exact h.elim
theorem XW_loop {b:XC} {Q:XQ} {st:AS} (X:Type) (I:X→AS) (inv:X→Prop) (μ:X→Nat) (x0:X) (h0:AS.le P n st (I x0)) (hi:inv x0)
  (hr:∀x,inv x→xwp P C n b (XQ.seq (fun s=>∃x',μ x'<μ x∧inv x'∧AS.le P n s (I x')) Q) (I x)):XW P C n (.loop b) Q st:=by
 intro code hc hC B M w0 ψ a w s ro hR
 cases code<;>simp[codeChk] at hc
 obtain ⟨ψ',s'⟩:=h0 B M w0 ψ a w s
 refine wpIn_loop_ghost (fun k a w=>∃x ψ,μ x=k∧inv x∧Sim P B M n (I x) ψ w0 a w) (μ x0) ⟨x0,ψ',rfl,hi,s'⟩ ?_
 rintro k a w ⟨x,ψ,rfl,hx,s⟩
 refine wpIn_mono (XW_of (hr x hx) _ hc hC B M w0 ψ a w s ro hR) fun e a' w' q=>?_
 cases e with
 |normal=>
  obtain ⟨s1,ψ1,h1,x',h2,h3,h4⟩:=q
  obtain ⟨ψ2,h5⟩:=h4 B M w0 ψ1 a' w' h1
  exact ⟨μ x',h2,x',ψ2,rfl,h3,h5⟩
 |exit i=>exact q
 |ret=>exact q
 |_=>exact q.elim
end
def assoc:List (Nat×Nat)→Nat→Option Nat
 |[],_=>none
 |(k,v)::r,l=>if l=k then some v else assoc r l
def disj:List Nat→List (Nat×Nat)→Bool
 |[],_=>true
 |l::r,ρ=>!(ρ.any fun p=>p.2==l)&&disj r ρ
mutual
def avle (ρ:List (Nat×Nat)) (hp:Hp):AV→AV→Prop
 | .top,_=>True
 | .val t d,src=>match rd hp t src with
  |some (d',ls)=>d'=d∧disj ls ρ=true
  |none=>False
 | .own l,src=>match assoc ρ l with
  |none=>True
  |some l0=>match src with
   | .own l1=>l1=l0
   |_=>False
 | .ptr l o,src=>match assoc ρ l with
  |none=>True
  |some l0=>match src with
   | .ptr l1 o1=>l1=l0∧o1=o
   |_=>False
 | .cst v,src=>match src with
  | .cst u=>u=v
  |_=>False
 | .agg cs,src=>match src with
  | .agg ds=>avles ρ hp cs ds
  |_=>False
 | .tup cs,src=>match src with
  | .tup ds=>avles ρ hp cs ds
  |_=>False
 | .clo f cs,src=>match src with
  | .clo g ds=>g=f∧avles ρ hp cs ds
  |_=>False
 | .eptr _ _ _,_=>False
 | .whn _ _,_=>False
 | .ub _ _,_=>False
 | .nnl,src=>match src with
  | .nnl=>True
  |_=>False
 | .frz _,_=>False
 | .sub _ _ _,_=>False
 | .arr l n,src=>match assoc ρ l with
  |none=>True
  |some l0=>match src with
   | .arr l1 n1=>l1=l0∧n1=n
   |_=>False
 | .bnd f cs,src=>match src with
  | .bnd g ds=>g=f∧avles ρ hp cs ds
  |_=>False
 | .yl l ks cs,src=>match src with
  | .yl l1 ks1 ds=>assoc ρ l=some l1∧ks1=ks∧avles ρ hp cs ds
  |_=>False
def avles (ρ:List (Nat×Nat)) (hp:Hp):List AV→List AV→Prop
 |[],src=>match src with
  |[]=>True
  |_::_=>False
 |a::r,src=>match src with
  |b::s=>avle ρ hp a b∧avles ρ hp r s
  |[]=>False
end
def oble (ρ:List (Nat×Nat)) (hp:Hp):OB→OB→Prop
 | .box T cs,.box U ds=>U=T∧avles ρ hp cs ds
 | .row e t xs,.row f u ys=>f=e∧cast? (.sl t) (.sl u) ys=some xs
 | .mp k t xs,.mp k' t' ys=>cast? (.sl (.cons (.int k) t)) (.sl (.cons (.int k') t')) ys=some xs
 | .lp bs r,.lp bs' r'=>bs'=bs∧r'=r
 | .it k t xs none,.it k' t' ys _=>cast? (.sl (.cons (.int k) t)) (.sl (.cons (.int k') t')) ys=some xs
 |_,_=>False
def hple (ρ:List (Nat×Nat)) (hp:Hp):List (Nat×OB)→Prop
 |[]=>True
 |(l,ob)::r=>(match assoc ρ l with
  |none=>False
  |some l0=>match hp l0 with
   |some ob0=>oble ρ hp ob ob0
   |none=>False)∧hple ρ hp r
def uniq:List (Nat×Nat)→Bool
 |[]=>true
 |p::r=>!(r.any fun q=>q.2==p.2)&&uniq r
def locOk (st:AS):Bool:=st.tm.all (fun p=>ltAll st.nx p.2.locs)&&st.hp.all fun p=>decide (p.1<st.nx)&&ltAll st.nx p.2.locs
def sub (ρ:List (Nat×Nat)) (hp:List (Nat×OB)):Bool:=ρ.all fun p=>hp.any fun q=>q.1==p.1
def tmle (ρ:List (Nat×Nat)) (hp:Hp) (src:List (Nat×AV)):List (Nat×AV)→Prop
 |[]=>True
 |(k,v)::r=>avle ρ hp v (tmG src k)∧tmle ρ hp src r
def asle (ρ:List (Nat×Nat)) (st s:AS):Prop:=tmle ρ (look st.hp) st.tm s.tm∧hple ρ (look st.hp) s.hp∧uniq ρ=true∧sub ρ s.hp=true∧locOk s=true
section
variable {P:Program} {C:List Ent} {n:Nat} {B:Nat} {M:Nat→Prop} {ψ:Nat→Value} {w0:Fix} {w:World} {a:Act}
theorem assoc_mem:∀{ρ:List (Nat×Nat)} {l v:Nat},assoc ρ l=some v→(l,v)∈ρ
 |(k,u)::r,l,v,h=>by
  simp only[assoc] at h;split at h
  ·rename_i e;injection h with h;subst e h;simp
  ·exact List.mem_cons_of_mem _ (assoc_mem h)
theorem uniq_inj:∀{ρ:List (Nat×Nat)},uniq ρ=true→∀p∈ρ,∀q∈ρ,p.2=q.2→p=q
 |[],_,p,hp,_,_,_=>by cases hp
 |x::r,h,p,hp,q,hq,e=>by
  simp only[uniq,Bool.and_eq_true,Bool.not_eq_true',List.any_eq_false,beq_iff_eq] at h;rcases List.mem_cons.1 hp with e1|hp2
  ·rcases List.mem_cons.1 hq with e2|hq2
   ·rw[e1,e2]
   ·rw[e1] at e;exact absurd e.symm (h.1 q hq2)
  ·rcases List.mem_cons.1 hq with e2|hq2
   ·rw[e2] at e;exact absurd e (h.1 p hp2)
   ·exact uniq_inj h.2 p hp2 q hq2 e
theorem disj_not:∀{ls:List Nat} {ρ:List (Nat×Nat)},disj ls ρ=true→∀p∈ρ,p.2∉ls
 |[],_,_,p,_=>by simp
 |l::r,ρ,h,p,hp=>by
  simp only[disj,Bool.and_eq_true,Bool.not_eq_true',List.any_eq_false,beq_iff_eq] at h;simp only[List.mem_cons,not_or];exact ⟨h.1 p hp,disj_not h.2 p hp⟩
def reψ (ρ:List (Nat×Nat)) (ψ:Nat→Value):Nat→Value:=fun l=>match assoc ρ l with
 |some l0=>ψ l0
 |none=>.tuple #[]
structure Ren (ρ:List (Nat×Nat)) (hp hp':Hp):Prop where
 dom:∀l ob,hp' l=some ob→∃l0 ob0,assoc ρ l=some l0∧hp l0=some ob0∧oble ρ hp ob ob0
 inj:∀p∈ρ,∀q∈ρ,p.2=q.2→p=q
 cod:∀p∈ρ,∃ob,hp' p.1=some ob
theorem Ren.mu {ρ:List (Nat×Nat)} {hp hp':Hp} (r:Ren ρ hp hp') {ls:List Nat} (hd:∀p∈ρ,p.2∉ls):∀b,Mu M hp' (reψ ρ ψ) b→Mu M (kill hp ls) ψ b:=by
 rintro b (q|⟨l,ob,h1,h2⟩)
 ·exact .inl q
 ·obtain ⟨l0,ob0,k1,k2,_⟩:=r.dom l ob h1;refine .inr ⟨l0,ob0,by rw[kill_not (hd _ (assoc_mem k1))];exact k2,?_⟩;simpa [reψ,k1] using h2
mutual
theorem avle_ok {ρ:List (Nat×Nat)} {hp hp':Hp} (h0:HOK P B M hp ψ w) (r:Ren ρ hp hp'):∀{tgt src:AV} {v:Value},avle ρ hp tgt src→AVR P hp ψ w (Mu M hp ψ) src v→AVR P hp' (reψ ρ ψ) w (Mu M hp' (reψ ρ ψ)) tgt v
 | .top,_,_,_,_=>trivial
 | .val t d,src,v,h,q=>by
  unfold avle at h;split at h
  ·rename_i d' ls hr;obtain ⟨rfl,hd⟩:=h;have:=rd_ok h0 (fun _ _ h=>h) hr q (ls':=ls) (fun _ h=>h);exact ⟨this.1,this.2.less (r.mu (disj_not hd)) (kill_bound h0 ls)⟩
  ·exact h.elim
 | .own l,src,v,h,q=>by
  intro ob hl;obtain ⟨l0,ob0,k1,k2,_⟩:=r.dom l ob hl;unfold avle at h;rw[k1] at h;simp only at h;split at h
  ·subst h;rw[q ob0 k2];simp[reψ,k1]
  ·exact h.elim
 | .ptr l o,src,v,h,q=>by
  intro ob hl;obtain ⟨l0,ob0,k1,k2,_⟩:=r.dom l ob hl;unfold avle at h;rw[k1] at h;simp only at h;split at h
  ·obtain ⟨rfl,rfl⟩:=h;have:=q ob0 k2;simpa [reψ,k1] using this
  ·exact h.elim
 | .arr l n,src,v,h,q=>by
  intro ob hl;obtain ⟨l0,ob0,k1,k2,_⟩:=r.dom l ob hl;unfold avle at h;rw[k1] at h;simp only at h;split at h
  ·obtain ⟨rfl,rfl⟩:=h;have:=q ob0 k2;simpa [reψ,k1] using this
  ·exact h.elim
 | .cst u,src,v,h,q=>by
  unfold avle at h;split at h
  ·subst h;exact q
  ·exact h.elim
 | .agg cs,src,v,h,q=>by
  unfold avle at h;split at h
  ·obtain ⟨us,e,q1,q2⟩:=q;exact ⟨us,e,avles_ok h0 r h q1,q2⟩
  ·exact h.elim
 | .tup cs,src,v,h,q=>by
  unfold avle at h;split at h
  ·obtain ⟨us,e,q1⟩:=q;exact ⟨us,e,avles_ok h0 r h q1⟩
  ·exact h.elim
 | .clo f cs,src,v,h,q=>by
  unfold avle at h;split at h
  ·obtain ⟨rfl,h⟩:=h;obtain ⟨us,e,q1⟩:=q;exact ⟨us,e,avles_ok h0 r h q1⟩
  ·exact h.elim
 | .eptr _ _ _,_,_,h,_=>by unfold avle at h;exact h.elim
 | .whn _ _,_,_,h,_=>by unfold avle at h;exact h.elim
 | .ub _ _,_,_,h,_=>by unfold avle at h;exact h.elim
 | .nnl,src,v,h,q=>by
  unfold avle at h;split at h
  ·exact q
  ·exact h.elim
 | .frz _,_,_,h,_=>by unfold avle at h;exact h.elim
 | .sub _ _ _,_,_,h,_=>by unfold avle at h;exact h.elim
 | .bnd f cs,src,v,h,q=>by
  unfold avle at h;split at h
  ·obtain ⟨rfl,h⟩:=h;obtain ⟨us,e,q1⟩:=q;exact ⟨us,e,avles_ok h0 r h q1⟩
  ·exact h.elim
 | .yl l ks cs,src,v,h,q=>by
  unfold avle at h;split at h
  ·obtain ⟨ha,rfl,h⟩:=h;obtain ⟨T,q1,q2⟩:=q;refine ⟨T,avles_ok h0 r h q1,fun bs rr hl=>?_⟩;obtain ⟨l0,ob0,k1,k2,k3⟩:=r.dom l _ hl;rw[ha] at k1;injection k1 with k1;subst k1;cases ob0 with
   |lp bs' r'=>
    obtain ⟨rfl,rfl⟩:=k3;obtain ⟨b,e1,e2,e3⟩:=q2 _ _ k2;exact ⟨b,by simp[reψ,ha,e1],e2,e3⟩
   |box _ _=>exact k3.elim
   |row _ _ _=>exact k3.elim
   |mp _ _ _=>exact k3.elim
   |it _ _ _ _=>exact k3.elim
  ·exact h.elim
theorem avles_ok {ρ:List (Nat×Nat)} {hp hp':Hp} (h0:HOK P B M hp ψ w) (r:Ren ρ hp hp'):∀{tgt src:List AV} {vs:List Value},avles ρ hp tgt src→AVRs P hp ψ w (Mu M hp ψ) src vs→AVRs P hp' (reψ ρ ψ) w (Mu M hp' (reψ ρ ψ)) tgt vs
 |[],src,vs,h,q=>by
  cases src with
  |nil=>exact q
  |cons _ _=>unfold avles at h;exact h.elim
 |x::t,src,vs,h,q=>by
  cases src with
  |nil=>unfold avles at h;exact h.elim
  |cons y s=>
   unfold avles at h;obtain ⟨v,u,e,q1,q2⟩:=q;exact ⟨v,u,e,avle_ok h0 r h.1 q1,avles_ok h0 r h.2 q2⟩
end
theorem tmle_at {ρ:List (Nat×Nat)} {hp:Hp} {src:List (Nat×AV)}:∀{tgt:List (Nat×AV)},tmle ρ hp src tgt→∀t,avle ρ hp (tmG tgt t) (tmG src t)
 |[],_,t=>by simp only[tmG];unfold avle;trivial
 |(k,v)::r,h,t=>by
  simp only[tmG];unfold tmle at h;split
  ·rename_i e;subst e;exact h.1
  ·exact tmle_at h.2 t
theorem look_mem:∀{h:List (Nat×OB)} {l:Nat} {ob:OB},look h l=some ob→(l,ob)∈h
 |(k,o)::r,l,ob,h=>by
  simp only[look] at h;split at h
  ·rename_i e;injection h with h;subst e h;simp
  ·exact List.mem_cons_of_mem _ (look_mem h)
theorem hple_at {ρ:List (Nat×Nat)} {hp:Hp}:∀{h:List (Nat×OB)},hple ρ hp h→∀l ob,(l,ob)∈h→∃l0 ob0,assoc ρ l=some l0∧hp l0=some ob0∧oble ρ hp ob ob0
 |[],_,l,ob,hm=>by cases hm
 |(k,o)::r,h,l,ob,hm=>by
  unfold hple at h;rcases List.mem_cons.1 hm with e|hm
  ·simp only[Prod.mk.injEq] at e;obtain ⟨rfl,rfl⟩:=e;have h1:=h.1;split at h1
   ·exact h1.elim
   ·rename_i l0 hl0;split at h1
    ·rename_i ob0 hob0;exact ⟨l0,ob0,hl0,hob0,h1⟩
    ·exact h1.elim
  ·exact hple_at h.2 l ob hm
theorem look_some:∀{h:List (Nat×OB)} {l:Nat},(h.any fun q=>q.1==l)=true→∃ob,look h l=some ob
 |(k,o)::r,l,h=>by
  simp only[List.any_cons,Bool.or_eq_true,beq_iff_eq] at h;simp only[look];by_cases e:l=k
  ·rw[if_pos e];exact ⟨o,rfl⟩
  ·rw[if_neg e];exact look_some (h.resolve_left (Ne.symm e))
theorem le_of {st s:AS} {ρ:List (Nat×Nat)} (h:asle ρ st s):AS.le P n st s:=by
 intro B M w0 ψ a w sim;obtain ⟨h1,h2,h3,h4,h5⟩:=h;have k2:=tmle_at h1;have r:Ren ρ (look st.hp) (look s.hp):=by
  refine ⟨fun l ob hl=>hple_at h2 l ob (look_mem hl),uniq_inj h3,fun p hp=>?_⟩;unfold sub at h4;rw[List.all_eq_true] at h4;exact look_some (h4 p hp)
 have hmu:∀b,Mu M (look s.hp) (reψ ρ ψ) b→Mu M (look st.hp) ψ b:=fun b q=>by
  have:=r.mu (M:=M) (ψ:=ψ) (ls:=[]) (fun _ _=>by simp) b q;rwa [kill_nil] at this
 unfold locOk at h5;simp only[Bool.and_eq_true,List.all_eq_true,decide_eq_true_eq] at h5;refine ⟨reψ ρ ψ,⟨fun l ob hlo=>?_,fun l l' ob ob' b q1 q2 q3 q4=>?_,sim.hok.mb,fun l ob b q1 q2 q3=>(by
  obtain ⟨l0,ob0,k3,k4,_⟩:=r.dom l ob q1;exact sim.hok.md l0 ob0 b k4 (by simpa [reψ,k3] using q2) q3),sim.hok.bz⟩,fun t=>?_,sim.size,⟨sim.defers.1,sim.defers.2.map fun u ⟨b,e,q1,q2,q3⟩=>⟨b,e,q1,fun q=>q2 (hmu b q),q3⟩⟩,fun t l hl=>?_,fun l ob hl=>?_,sim.bel⟩
 ·obtain ⟨l0,ob0,k3,k4,k5⟩:=r.dom l ob hlo;have h0:=sim.hok.ob l0 ob0 k4;have hψ:reψ ρ ψ l=ψ l0:=by simp[reψ,k3]
  cases ob with
  |box T cs=>
   cases ob0 with
   |row _ _ _=>exact k5.elim
   |mp _ _ _=>exact k5.elim
   |lp _ _=>exact k5.elim
   |it _ _ _ _=>exact k5.elim
   |box U ds=>
    obtain ⟨rfl,k5⟩:=k5;obtain ⟨b,cells,e,hB,hg,q,q1⟩:=h0;exact ⟨b,cells,by rw[hψ];exact e,hB,hg,avles_ok sim.hok r k5 q,q1⟩
  |row e t xs=>
   cases ob0 with
   |box _ _=>exact k5.elim
   |mp _ _ _=>exact k5.elim
   |lp _ _=>exact k5.elim
   |it _ _ _ _=>exact k5.elim
   |row f u ys=>
    obtain ⟨rfl,k5⟩:=k5;obtain ⟨q,q'⟩:=cast?_some k5;injection q with q;subst q;simp only at q';subst q';obtain ⟨cells,hown,hrow⟩:=h0;exact ⟨cells,by rw[hψ];exact hown,hrow.mono fun x _ c q=>q.less hmu sim.hok.mu⟩
  |mp k t xs=>
   cases ob0 with
   |box _ _=>exact k5.elim
   |row _ _ _=>exact k5.elim
   |lp _ _=>exact k5.elim
   |it _ _ _ _=>exact k5.elim
   |mp k' t' ys=>
    obtain ⟨q,q'⟩:=cast?_some k5;simp only[Ty.sl.injEq,Ty.cons.injEq,Ty.int.injEq] at q;obtain ⟨rfl,rfl⟩:=q;simp only at q';subst q';obtain ⟨b,es,clock,e,h1⟩:=h0;exact ⟨b,es,clock,by rw[hψ];exact e,h1⟩
  |lp bs rr=>
   cases ob0 with
   |box _ _=>exact k5.elim
   |row _ _ _=>exact k5.elim
   |mp _ _ _=>exact k5.elim
   |it _ _ _ _=>exact k5.elim
   |lp bs' rr'=>
    obtain ⟨rfl,rfl⟩:=k5;obtain ⟨b,e,h1⟩:=h0;exact ⟨b,by rw[hψ];exact e,h1⟩
  |it k t xs cur=>
   cases cur with
   |some _=>cases ob0<;>exact k5.elim
   |none=>
   cases ob0 with
   |box _ _=>exact k5.elim
   |row _ _ _=>exact k5.elim
   |mp _ _ _=>exact k5.elim
   |lp _ _=>exact k5.elim
   |it k' t' ys cur'=>
    obtain ⟨q,q'⟩:=cast?_some k5;simp only[Ty.sl.injEq,Ty.cons.injEq,Ty.int.injEq] at q;obtain ⟨rfl,rfl⟩:=q;simp only at q';subst q';obtain ⟨b,e,hB,bm,since,seen,c0,es,clock,q1,q2,q3,q4,q5,q6,q7,q8,q9,q10,q11⟩:=h0;exact ⟨b,by rw[hψ];exact e,hB,bm,since,seen,c0,es,clock,q1,q2,fun z=>q3 (hmu _ z),q4,q5,q6,q7,q8,q9,q10,fun p hp=>by cases hp⟩
 ·obtain ⟨l0,ob0,k3,k4,_⟩:=r.dom l ob q1;obtain ⟨l1,ob1,k5,k6,_⟩:=r.dom l' ob' q2;have e:l0=l1:=sim.hok.dj l0 l1 ob0 ob1 b k4 k6 (by simpa [reψ,k3] using q3) (by simpa [reψ,k5] using q4);have:=r.inj _ (assoc_mem k3) _ (assoc_mem k5) e;exact congrArg Prod.fst this
 ·exact avle_ok sim.hok r (k2 t) (sim.av t)
 ·rcases tmG_mem (l:=s.tm) (t:=t) with q|q
  ·rw[q] at hl;cases hl
  ·exact ltAll_mem (h5.1 _ q) l hl
 ·have:=h5.2 _ (look_mem hl);exact ⟨this.1,ltAll_mem this.2⟩
end
end T
end Go.Proofs.YtpocfbfmjippnaaGreat
end
section
namespace Go.Proofs.YtpocfbfmjippnaaGreat
open Go.RowKit
namespace T
structure XF where
 n:Nat
 res:List XR
 kv:List Nat
 code:XC
def enter (kv:List Nat) (t:Ty) (x:t.den):AS:=⟨numb 0 (resAVs t x),[],0,kv⟩
def freshIs (hp:Hp) (eid:TypeId):(r:Ty)→r.den→AV→Prop
 | .sl t,d,.own l=>match hp l with
  |some (.row e t' xs)=>e=eid∧cast? (.sl t) (.sl t') xs=some d
  |_=>False
 |_,_,_=>False
def finish (rs:List XR) (many:Bool) (fresh:Option TypeId) (r:Ty) (y:r.den) (st:AS):Prop:=
 match resAll st rs with
 |none=>False
 |some avs=>match fresh with
  |some eid=>match avs with
   |[av]=>freshIs (look st.hp) eid r y av
   |_=>False
  |none=>if many then (match rdCap (look st.hp) r avs with
    |some (d,_)=>d=y
    |none=>False) else match avs with
   |[av]=>match rd (look st.hp) r av with
    |some (d,_)=>d=y
    |none=>False
   |_=>False
def retQ (rs:List XR) (many:Bool) (fresh:Option TypeId) (r:Ty) (y:r.den):XQ
 | .normal,s=>finish rs many fresh r y s
 | .ret,s=>finish rs many fresh r y s
 | .exit _,_=>False
section
variable (P:Program)
def chainLen:Ty→Nat
 | .cons _ b=>chainLen b+1
 |_=>0
def funcChk (e:Ent) (xf:XF):Bool:=funcOk P e.f&&decide (chainLen e.a≤xf.n)&&(if e.many then xf.res.length !=1 else xf.res.length==1)&&match P.funcs[e.f]? with
 |some fn=>fn.ntmps==xf.n&&resChk P xf.n fn.results.toList xf.res&&match fn.body with
  |some c=>codeChk P xf.n c xf.code
  |none=>false
 |none=>false
end
section
variable {P:Program} {C:List Ent} {n:Nat} {B:Nat} {M:Nat→Prop} {ψ:Nat→Value} {w0:Fix} {w:World} {a:Act}
theorem freshIs_ok {hp:Hp} {r:Ty} {d:r.den} {eid:TypeId} {av:AV} {v:Value} (h0:HOK P B M hp ψ w) (h:freshIs hp eid r d av) (q:AVR P hp ψ w (Mu M hp ψ) av v):Fresh P B w M eid r d v:=by
 cases r<;>cases av<;>simp only[freshIs] at h<;>(try exact h.elim)
 rename_i t l;split at h
 ·rename_i e t' xs hl;obtain ⟨rfl,hc⟩:=h;obtain ⟨k,k'⟩:=cast?_some hc;injection k with k;subst k;simp only at k';subst k';obtain rfl:=q _ hl;obtain ⟨cells,hown,hrow⟩:=h0.ob l _ hl;refine ⟨cells,hown,hrow.mono fun x _ c k=>k.less (fun b hb=>?_) h0.mu⟩;rcases hb with hb|hb
  ·exact .inl hb
  ·exact .inr ⟨l,_,hl,hb⟩
 ·exact h.elim
theorem rdl_len {M':Nat→Prop}:∀{t:Ty} {d:t.den} {vs:List Value},RdL P t w M' d vs→vs.length=chainLen t∧(resAVs t d).length=chainLen t
 | .nil,_,_,q=>by rw[show _=_ from q];exact ⟨rfl,rfl⟩
 | .cons x y,_,_,⟨v,r,e,q1,q2⟩=>by
  obtain ⟨h1,h2⟩:=rdl_len q2;rw[e];exact ⟨by simp[h1,chainLen],by simp[resAVs,h2,chainLen]⟩
 | .bool,_,_,q=>q.elim
 | .int _,_,_,q=>q.elim
 | .str,_,_,q=>q.elim
 | .sl _,_,_,q=>q.elim
 | .ptr _,_,_,q=>q.elim
 | .st _,_,_,q=>q.elim
 | .fn _ _,_,_,q=>q.elim
 | .fn2 _ _ _,_,_,q=>q.elim
 | .mp _ _,_,_,q=>q.elim
theorem resAVs_locs:∀{t:Ty} {d:t.den},∀av∈resAVs t d,av.locs=[]
 | .cons x y,d,av,h=>by
  simp only[resAVs,List.mem_cons] at h;rcases h with rfl|h
  ·rfl
  ·exact resAVs_locs av h
 | .nil,_,_,h=>by simp[resAVs] at h
 | .bool,_,_,h=>by simp[resAVs] at h
 | .int _,_,_,h=>by simp[resAVs] at h
 | .str,_,_,h=>by simp[resAVs] at h
 | .sl _,_,_,h=>by simp[resAVs] at h
 | .ptr _,_,_,h=>by simp[resAVs] at h
 | .st _,_,_,h=>by simp[resAVs] at h
 | .fn _ _,_,_,h=>by simp[resAVs] at h
 | .fn2 _ _ _,_,_,h=>by simp[resAVs] at h
 | .mp _ _,_,_,h=>by simp[resAVs] at h
theorem rdcap_many {t:Ty} {hp:Hp} {avs:List AV} {d:t.den} {ls:List Nat} (h0:HOK P B M hp ψ w) (h:rdCap hp t avs=some (d,ls)) {vs:List Value} (q:AVRs P hp ψ w (Mu M hp ψ) avs vs):RdL P t w M d vs:=by
 have:=rdCap_ok h0 (fun _ _ h=>h) h (ls':=ls) (fun _ h=>h) q;exact this.later ⟨Nat.le_refl _,fun _ _ _=>rfl,fun b _ h=>.inl h,fun b h=>h0.mb b h⟩
def Ty.noFn:Ty→Bool
 | .fn _ _=>false
 | .fn2 _ _ _=>false
 | .mp _ _=>false
 | .sl t=>t.noFn
 | .ptr t=>t.noFn
 | .st t=>t.noFn
 | .cons a b=>a.noFn&&b.noFn
 |_=>true
structure Shut (B:Nat) (w w':World):Prop where
 os:w'.os=w.os
 tape:w'.tape=w.tape
 output:w'.output=w.output
 size:w'.heap.size=w.heap.size
 block:∀b o,w.heap[b]?=some o→w'.heap[b]?=some o∨(B≤b∧o.isCells=false)
theorem Shut.refl (B:Nat) (w:World):Shut B w w:=⟨rfl,rfl,rfl,rfl,fun _ _ h=>.inl h⟩
theorem Shut.trans {B:Nat} {w w1 w2:World} (h:Shut B w w1) (k:Shut B w1 w2):Shut B w w2:=
 ⟨k.os.trans h.os,k.tape.trans h.tape,k.output.trans h.output,k.size.trans h.size,fun b o q=>by
  rcases h.block b o q with q1|q1
  ·exact k.block b o q1
  ·exact .inr q1⟩
theorem Shut.below {B:Nat} {w0 w w':World} (h:Below B w0 w) (k:Shut B w w') (hB:B≤w0.heap.size):Below B w0 w':=
 ⟨k.os.trans h.os,k.tape.trans h.tape,k.output.trans h.output,by rw[k.size];exact h.size,fun b hb=>by
  rw[←h.block b hb];have hlt:b<w.heap.size:=Nat.lt_of_lt_of_le hb (Nat.le_trans hB h.size);rcases k.block b w.heap[b] (Array.getElem?_eq_getElem hlt) with q|q
  ·rw[q,Array.getElem?_eq_getElem hlt]
  ·omega⟩
theorem Shut.cells {B:Nat} {w w':World} (k:Shut B w w') {b off:Nat} {cs:List Value} (h:CellsAt w b off cs):CellsAt w' b off cs:=fun j v hj=>by
 have h1:=h j v hj;obtain ⟨o,ho,hc⟩:=cells_of_cell h1;rcases k.block b o ho with q|q
 ·rw[World.cell?_of_block (w:=w) (a:=⟨b,off+j,none⟩) (q.trans ho.symm)];exact h1
 ·rw[q.2] at hc;cases hc
theorem Rd.shut {B':Nat} {w w':World} {M:Nat→Prop} (k:Shut B' w w'):∀{t:Ty} {d:t.den} {cs:List Value},t.noFn=true→Rd P t w M d cs→Rd P t w' M d cs
 | .bool,_,_,_,q=>q
 | .int _,_,_,_,q=>q
 | .str,_,_,_,q=>q
 | .nil,_,_,_,q=>q
 | .st t,d,_,h,q=>Rd.shut (t:=t) k h q
 | .cons a b,d,_,h,⟨c1,c2,e,q1,q2⟩=>by
  unfold Ty.noFn at h;rw[Bool.and_eq_true] at h;exact ⟨c1,c2,e,Rd.shut (t:=a) k h.1 q1,Rd.shut (t:=b) k h.2 q2⟩
 | .sl t,d,_,h,⟨A,n,c,e,h1,h2,h3,h4⟩=>by
  refine ⟨A,n,c,e,h1,h2,h3,?_⟩;rcases h4 with h4|⟨b,off,cc,e',hb,hm,hc,hr⟩
  ·exact .inl h4
  ·exact .inr ⟨b,off,cc,e',by rw[k.size];exact hb,hm,k.cells hc,hr.mono fun x _ c q=>Rd.shut (t:=t) k h q⟩
 | .ptr t,d,_,h,⟨b,off,cc,e',hb,hm,hc,hr⟩=>⟨b,off,cc,e',by rw[k.size];exact hb,hm,k.cells hc,Rd.shut (t:=t) k h hr⟩
 | .fn _ _,_,_,h,_=>by cases h
 | .fn2 _ _ _,_,_,h,_=>by cases h
 | .mp _ _,_,_,h,_=>by cases h
theorem RdL.shut {B':Nat} {w w':World} {M:Nat→Prop} (k:Shut B' w w'):∀{t:Ty} {d:t.den} {vs:List Value},t.noFn=true→RdL P t w M d vs→RdL P t w' M d vs
 | .nil,_,_,_,q=>q
 | .cons a b,d,_,h,⟨v,r,e,q1,q2⟩=>by
  unfold Ty.noFn at h;rw[Bool.and_eq_true] at h;exact ⟨v,r,e,⟨q1.1,q1.2.shut k h.1⟩,RdL.shut (t:=b) k h.2 q2⟩
 | .bool,_,_,_,q=>q.elim
 | .int _,_,_,_,q=>q.elim
 | .str,_,_,_,q=>q.elim
 | .sl _,_,_,_,q=>q.elim
 | .ptr _,_,_,_,q=>q.elim
 | .st _,_,_,_,q=>q.elim
 | .fn _ _,_,_,_,q=>q.elim
 | .fn2 _ _ _,_,_,_,q=>q.elim
 | .mp _ _,_,_,_,q=>q.elim
theorem RdRes.shut {B':Nat} {w w':World} {M:Nat→Prop} (k:Shut B' w w') {many:Bool} {t:Ty} {d:t.den} {v:Value} (h:t.noFn=true) (q:RdRes P many t w M d v):RdRes P many t w' M d v:=by
 unfold RdRes at q⊢;split
 ·rename_i c;rw[if_pos c] at q;obtain ⟨us,e,q⟩:=q;exact ⟨us,e,q.shut k h⟩
 ·rename_i c;rw[if_neg c] at q;exact ⟨q.1,q.2.shut k h⟩
theorem leaves_marks {B:Nat} {fn:Func} {tmps:Array Value} {R:Ending→World→Prop}:∀(ds:List Deferred) (w:World),(∀d∈ds,∃b,d={ target:=.collected b,args:=#[] }∧B≤b∧w.heap[b]?=some (.deferred (some [])))→ds.Pairwise (fun x y=>x.target≠y.target)→
  (∀w',Shut B w w'→∃v,(results fn tmps).run P w'= .ok v w'∧R (.returned v) w')→LeavesInM Fence.wide 0 P fn tmps R ds .returning w
 |[],w,_,_,h=>h w (Shut.refl B w)
 |d::ds,w,hm,hp,h=>by
  obtain ⟨b,rfl,hB,hb⟩:=hm d (by simp);rw[List.pairwise_cons] at hp;have hlt:b<w.heap.size:=lt_of_block hb;have k:Shut B w (w.putObj b (.deferred none)):=⟨rfl,rfl,rfl,by simp,fun b' o q=>by
   by_cases e:b'=b
   ·subst e;rw[hb] at q;injection q with q;subst q;exact .inr ⟨hB,rfl⟩
   ·rw[World.putObj_heap_other e];exact .inl q⟩
  refine ⟨fun q=>(by cases q),.inl ⟨b,_,rfl,run_takeDeferred hb,leaves_marks ds _ (fun d' hd'=>?_) hp.2 fun w' k'=>h w' (k.trans k')⟩⟩;obtain ⟨b',rfl,hB',hb'⟩:=hm d' (by simp[hd']);refine ⟨b',rfl,hB',?_⟩;have hne:b'≠b:=fun e=>hp.1 _ hd' (by rw[e]);rw[World.putObj_heap_other hne];exact hb'
def allTmp:List XR→Bool
 |[]=>true
 | .tmp _::r=>allTmp r
 |_=>false
theorem res_any {n:Nat} {tmps:Array Value}:∀{rs:List ResultVar} {xs:List XR},resChk P n rs xs=true→allTmp xs=true→∀w1 w2 vs,(rs.mapM (resOf tmps)).run P w1= .ok vs w1→(rs.mapM (resOf tmps)).run P w2= .ok vs w2
 |[],_,_,_,w1,w2,vs,h=>by
  rw[List.mapM_nil] at h⊢;simp at h⊢;exact h
 | .tmp t::rs,.tmp t'::xs,hc,ha,w1,w2,vs,h=>by
  simp only[resChk,Bool.and_eq_true] at hc;have e0:resOf tmps (.tmp t)=pure (tmps.getD t undef):=rfl;rw[List.mapM_cons,e0] at h⊢;simp only[Sem.run_bind,Sem.run_pure,Result.andThen] at h⊢;cases hq:(rs.mapM (resOf tmps)).run P w1 with
  |halt x w'=>rw[hq] at h;simp at h
  |ok us w'=>
   have e:w'=w1:=by
    rw[hq] at h;simp at h;exact h.2
   subst e;rw[hq] at h;rw[res_any hc.2 ha w' w2 us hq];simp at h⊢;exact h
 | .cell _ _::_,.cell _ _::_,_,ha,_,_,_,_=>by cases ha
 | .tmp _::_,[],hc,_,_,_,_,_=>by simp[resChk] at hc
 | .cell _ _::_,[],hc,_,_,_,_,_=>by simp[resChk] at hc
 | .tmp _::_,.cell _ _::_,hc,_,_,_,_,_=>by simp[resChk] at hc
 | .cell _ _::_,.tmp _::_,hc,_,_,_,_,_=>by simp[resChk] at hc
theorem results_any {n:Nat} {fn:Func} {tmps:Array Value} {xs:List XR} (hc:resChk P n fn.results.toList xs=true) (ha:allTmp xs=true) {w1 w2:World} {v:Value} (h:(results fn tmps).run P w1= .ok v w1):(results fn tmps).run P w2= .ok v w2:=by
 have e:results fn tmps=(do let vs←fn.results.mapM (resOf tmps);pure (if h:vs.size=1 then vs[0] else .tuple vs)):=by
  unfold results;congr 2
 rw[e,Sem.run_bind,Array.mapM_eq_mapM_toList,Sem.run_map] at h⊢;cases hq:(fn.results.toList.mapM (resOf tmps)).run P w1 with
 |halt x w'=>rw[hq] at h;simp[Result.andThen] at h
 |ok us w'=>
  have e:w'=w1:=by
   rw[hq] at h;simp[Result.andThen] at h;exact h.2
  subst e;rw[hq] at h;rw[res_any hc ha w' w2 us hq];simp[Result.andThen] at h⊢;exact h
def markOk0 (dm:Bool) (e:Ent) (xf:XF):Bool:=if dm then allTmp xf.res&&e.fresh.isNone&&e.r.noFn else !xf.code.hasR
def markOk (dm:Bool) (e:Ent) (xf:XF):Bool:=markOk0 dm e xf&& !e.own
theorem markOk.own {dm:Bool} {e:Ent} {xf:XF} (h:markOk dm e xf=true):e.own=false:=by unfold markOk at h;simp only[Bool.and_eq_true,Bool.not_eq_true'] at h;exact h.2
theorem con_gen {e:Ent} (dm:Bool) (xf:XF) (hchk:funcChk P e xf=true) (hdm1:markOk dm e xf=true) (hC:∀e∈C,Con P e) (h:∀x,e.pre x→xwp P C xf.n xf.code (retQ xf.res e.many e.fresh e.r (e.F x)) (enter xf.kv e.a x)):Con P e:=by
 have hown:=markOk.own hdm1;have hdm:markOk0 dm e xf=true:=by unfold markOk at hdm1;rw[Bool.and_eq_true] at hdm1;exact hdm1.1
 unfold funcChk at hchk;simp only[Bool.and_eq_true,decide_eq_true_eq] at hchk;obtain ⟨⟨⟨hfo,hlen⟩,hmany⟩,hchk⟩:=hchk;refine Con.to ?_ hown;refine ⟨hfo,fun x hx w M vs hM hvs=>?_⟩;split at hchk
 ·rename_i fn hfn;simp only[Bool.and_eq_true,beq_iff_eq] at hchk;obtain ⟨⟨hn,hres⟩,hchk⟩:=hchk;split at hchk
  ·rename_i c hc;obtain ⟨l1,l2⟩:=rdl_len hvs;have hmu:∀b,Mu M (look []) (fun _=>undef) b↔M b:=fun b=>⟨fun q=>q.elim id (fun ⟨_,_,q,_⟩=>by simp[look] at q),.inl⟩;have hav0:AVRs P (look []) (fun _=>undef) w (Mu M (look []) (fun _=>undef)) (resAVs e.a x) vs:=by
    have:Mu M (look []) (fun _=>undef)=M:=by funext b;exact propext (hmu b)
    rw[this];exact resAVs_ok hvs
   have hget:∀t,tmG (enter xf.kv e.a x).tm t=(resAVs e.a x).getD t .top:=fun t=>by
    have key:∀(l:List AV) (k t:Nat),tmG (numb k l) (k+t)=l.getD t .top:=by
     intro l;induction l with
     |nil=>intro k t;rfl
     |cons a r ih=>
      intro k t;simp only[numb,tmG];cases t with
      |zero=>simp
      |succ t=>rw[if_neg (by omega),show k+(t+1)=k+1+t by omega,ih];rfl
    have:=key (resAVs e.a x) 0 t;rwa [Nat.zero_add] at this
   have hsim:Sim P w.heap.size M xf.n (enter xf.kv e.a x) (fun _=>undef) ⟨w,[],dm,[]⟩ { tmps:=vs.toArray++Array.replicate (fn.ntmps-vs.toArray.size) undef,defers:=[] } w:=by
    refine ⟨⟨fun l ob q=>by simp[enter,look] at q,fun l _ _ _ _ q=>by simp[enter,look] at q,hM,fun l _ _ q=>by simp[enter,look] at q,Nat.le_refl _⟩,fun t=>?_,by simp[hn];omega,⟨fun _=>rfl,Marks.nil⟩,fun t l hl=>?_,fun l ob q=>by simp[enter,look] at q,Stay.refl⟩
    ·rw[hget t];by_cases c:t<(resAVs e.a x).length
     ·obtain ⟨v,hv,hq⟩:=hav0.at (i:=t) (av:=(resAVs e.a x)[t]) (by simp[c]);have e1:(resAVs e.a x).getD t .top=(resAVs e.a x)[t]:=by
       rw[List.getD_eq_getElem?_getD,List.getElem?_eq_getElem c];rfl
      have e2:(vs.toArray++Array.replicate (fn.ntmps-vs.toArray.size) undef).getD t undef=v:=by
       have hlt:t<vs.length:=(List.getElem?_eq_some_iff.1 hv).1;simp only[Array.getD_eq_getD_getElem?];rw[Array.getElem?_append_left (by simpa using hlt)];simp[hv]
      rw[e1,sval,if_pos (by omega),e2];exact hq
     ·rw[List.getD_eq_getElem?_getD,List.getElem?_eq_none (by omega)];exact trivial
    ·exfalso;rw[hget t] at hl;by_cases c:t<(resAVs e.a x).length
     ·rw[List.getD_eq_getElem?_getD,List.getElem?_eq_getElem c] at hl;simp only[Option.getD_some] at hl;rw[resAVs_locs _ (List.getElem_mem c)] at hl;cases hl
     ·rw[List.getD_eq_getElem?_getD,List.getElem?_eq_none (by omega)] at hl;cases hl
   have fin:∀(st:AS) (ψ:Nat→Value) (a':Act) (w':World),Sim P w.heap.size M xf.n st ψ ⟨w,[],dm,[]⟩ a' w'→finish xf.res e.many e.fresh e.r (e.F x) st→∃v,(results fn a'.tmps).run P w'= .ok v w'∧∃v',Ending.returned v= .returned v'∧Below w.heap.size w w'∧(match e.fresh with
     |some t=>Fresh P w.heap.size w' M t e.r (e.F x) v'
     |none=>RdRes P e.many e.r w' M (e.F x) v'):=by
    intro st ψ a' w' s hfin
    unfold finish at hfin
    split at hfin
    ·exact hfin.elim
    ·rename_i avs havs
     obtain ⟨vs',hrun,hav⟩:=results_run s hres havs
     have hlv:vs'.length=xf.res.length:=by rw[hav.len,resAll_len havs]
     refine ⟨_,hrun,_,rfl,s.bel.below,?_⟩
     have lessM:Later w' (Mu M (look st.hp) ψ) w' M:=⟨Nat.le_refl _,fun _ _ _=>rfl,fun b _ h=>.inl h,fun b h=>s.hok.mb b h⟩
     cases hf:e.fresh with
     |some eid=>
      rw[hf] at hfin
      simp only at hfin⊢
      split at hfin
      ·rename_i av
       obtain ⟨v,rfl,hq⟩:=avr1 hav
       simp only[List.size_toArray,List.length_singleton,dite_true]
       simp only[List.getElem_toArray,List.getElem_cons_zero]
       exact freshIs_ok s.hok hfin hq
      ·exact hfin.elim
     |none=>
      rw[hf] at hfin
      simp only at hfin⊢
      unfold RdRes
      by_cases hm:e.many=true
      ·rw[if_pos hm] at hfin hmany⊢
       split at hfin
       ·rename_i d ls hd
        subst hfin
        have hne:¬vs'.toArray.size=1:=by
         simp only[bne_iff_ne] at hmany;simpa [hlv] using hmany
        rw[dif_neg hne]
        exact ⟨vs'.toArray,rfl,by simpa using rdcap_many s.hok hd hav⟩
       ·exact hfin.elim
      ·rw[if_neg hm] at hfin hmany⊢
       split at hfin
       ·rename_i av
        split at hfin
        ·rename_i d ls hd
         subst hfin
         obtain ⟨v,rfl,hq⟩:=avr1 hav
         simp only[List.size_toArray,List.length_singleton,dite_true]
         simp only[List.getElem_toArray,List.getElem_cons_zero]
         have:=rd_ok s.hok (fun _ _ h=>h) hd hq (ls':=ls) (fun _ h=>h)
         exact this.later ⟨Nat.le_refl _,fun _ _ _=>rfl,fun b _ h=>.inl h,lessM.bound⟩
        ·exact hfin.elim
       ·exact hfin.elim
   have hR:xf.code.hasR=true→(⟨w,[],dm,[]⟩:Fix).dm=true∧(none:Option Nat)=none:=fun q=>by
    unfold markOk0 at hdm;cases dm with
    |true=>exact ⟨rfl,rfl⟩
    |false=>simp[q] at hdm
   cases dm with
   |false=>
    refine calls_of_wp hfn hc (wp_mono (wpIn_wide.1 (XW_of (h x hx) c hchk hC _ M ⟨w,[],false,[]⟩ _ _ _ hsim none hR)) ?_);intro ex a' w' q;cases ex with
    |normal=>obtain ⟨st,ψ,q1,q2⟩:=q;exact ⟨q1.defers.1 rfl,fin st ψ a' w' q1 q2⟩
    |ret=>obtain ⟨st,ψ,q1,q2⟩:=q;exact ⟨q1.defers.1 rfl,fin st ψ a' w' q1 q2⟩
    |exit i=>obtain ⟨st,ψ,q1,q2⟩:=q;exact q2.elim
    |_=>exact q.elim
   |true=>
    unfold markOk0 at hdm;simp only[if_true,Bool.and_eq_true,Option.isNone_iff_eq_none] at hdm;obtain ⟨⟨hat,hfr⟩,hnf⟩:=hdm;refine callsIn_wide.1 (callsIn_of_wp_marks (F:=Fence.wide) (n:=0) hfn hc trivial (wpIn_mono (XW_of (h x hx) c hchk hC _ M ⟨w,[],true,[]⟩ _ _ _ hsim none hR) ?_));have fin2:∀(st:AS) (ψ:Nat→Value) (a':Act) (w':World),Sim P w.heap.size M xf.n st ψ ⟨w,[],true,[]⟩ a' w'→finish xf.res e.many e.fresh e.r (e.F x) st→LeavesInM Fence.wide 0 P fn a'.tmps (fun en w'=>∃v,en= .returned v∧Below w.heap.size w w'∧(match e.fresh with
      |some t=>Fresh P w.heap.size w' M t e.r (e.F x) v
      |none=>RdRes P e.many e.r w' M (e.F x) v)) a'.defers .returning w':=by
     intro st ψ a' w' s hfin
     obtain ⟨v,hrun,v',hv,hbel,hres'⟩:=fin st ψ a' w' s hfin
     have hms:=s.defers.2
     rw[List.append_nil] at hms
     refine leaves_marks (B:=w.heap.size) _ _ (fun d hd=>?_) hms.2 fun w2 k=>⟨v,results_any hres hat hrun,v',hv,k.below hbel (Nat.le_refl _),?_⟩
     ·obtain ⟨b,e1,hB,b2,e2,_,_,h3⟩:=hms.1 d hd
      simp only[Value.pointer.injEq,Option.some.injEq,Addr.mk.injEq,and_true] at e2
      subst e2
      exact ⟨b,e1,hB,h3⟩
     ·rw[hfr] at hres'⊢
      exact RdRes.shut k hnf hres'
    intro ex a' w' q;cases ex with
    |normal=>obtain ⟨st,ψ,q1,q2⟩:=q;exact fin2 st ψ a' w' q1 q2
    |ret=>obtain ⟨st,ψ,q1,q2⟩:=q;exact fin2 st ψ a' w' q1 q2
    |exit i=>obtain ⟨st,ψ,q1,q2⟩:=q;exact q2.elim
    |_=>exact q.elim
  ·cases hchk
 ·cases hchk
theorem con_of {e:Ent} (xf:XF) (hchk:(funcChk P e xf&&markOk false e xf)=true) (hC:∀e∈C,Con P e) (h:∀x,e.pre x→xwp P C xf.n xf.code (retQ xf.res e.many e.fresh e.r (e.F x)) (enter xf.kv e.a x)):Con P e:=by
 rw[Bool.and_eq_true] at hchk;exact con_gen false xf hchk.1 hchk.2 hC h
theorem con_ofM {e:Ent} (xf:XF) (hchk:(funcChk P e xf&&markOk true e xf)=true) (hC:∀e∈C,Con P e) (h:∀x,e.pre x→xwp P C xf.n xf.code (retQ xf.res e.many e.fresh e.r (e.F x)) (enter xf.kv e.a x)):Con P e:=by
 rw[Bool.and_eq_true] at hchk;exact con_gen true xf hchk.1 hchk.2 hC h
end
end T
end Go.Proofs.YtpocfbfmjippnaaGreat
end
section
namespace Go.Proofs.YtpocfbfmjippnaaGreat
open Go.RowKit
namespace T
mutual
def ren1:AV→AV→List (Nat×Nat)
 | .own l,y=>match y with
  | .own k=>[(l,k)]
  |_=>[]
 | .ptr l _,y=>match y with
  | .ptr k _=>[(l,k)]
  |_=>[]
 | .arr l _,y=>match y with
  | .arr k _=>[(l,k)]
  |_=>[]
 | .agg cs,y=>match y with
  | .agg ds=>rens cs ds
  |_=>[]
 | .tup cs,y=>match y with
  | .tup ds=>rens cs ds
  |_=>[]
 | .clo _ cs,y=>match y with
  | .clo _ ds=>rens cs ds
  |_=>[]
 | .bnd _ cs,y=>match y with
  | .bnd _ ds=>rens cs ds
  |_=>[]
 | .yl l _ cs,y=>match y with
  | .yl k _ ds=>(l,k)::rens cs ds
  |_=>[]
 |_,_=>[]
def rens:List AV→List AV→List (Nat×Nat)
 |[],_=>[]
 |x::r,ys=>match ys with
  |y::s=>ren1 x y++rens r s
  |[]=>[]
end
def tidy (hp:List (Nat×OB)):List (Nat×Nat)→List (Nat×Nat)→List (Nat×Nat)
 |acc,[]=>acc
 |acc,p::r=>if acc.any (fun q=>q.1==p.1)|| !(hp.any fun q=>q.1==p.1) then tidy hp acc r else tidy hp (acc++[p]) r
def renB (hs hp:List (Nat×OB)):List (Nat×Nat)→List (Nat×Nat)
 |[]=>[]
 |p::r=>(match look hs p.1,look hp p.2 with
  |some (.box _ cs),some (.box _ ds)=>rens cs ds
  |_,_=>[])++renB hs hp r
def rensT (src:List (Nat×AV)):List (Nat×AV)→List (Nat×Nat)
 |[]=>[]
 |(k,v)::r=>ren1 v (tmG src k)++rensT src r
def autoρ (st s:AS):List (Nat×Nat):=
 let ρ:=tidy s.hp [] (rensT st.tm s.tm)
 tidy s.hp ρ (renB s.hp st.hp ρ)
def le' (st s:AS):Prop:=asle (autoρ st s) st s
def leQ (s t:AS):Prop:=le' s t
theorem leQ_mk {a:List (Nat×AV)} {b:List (Nat×OB)} {c:Nat} {d:List Nat} {t:AS}:leQ ⟨a,b,c,d⟩ t=le' ⟨a,b,c,d⟩ t:=rfl
def put1 (l:Nat) (ob:OB):List (Nat×OB)→List (Nat×OB)
 |[]=>[(l,ob)]
 |(k,o)::r=>if k=l then (l,ob)::r else (k,o)::put1 l ob r
def puts:List (Nat×OB)→List (Nat×OB)→List (Nat×OB)
 |h,[]=>h
 |h,(l,ob)::r=>puts (put1 l ob h) r
def keep (h:List (Nat×OB)) (ls:List Nat):List (Nat×OB):=h.filter fun p=>ls.contains p.1
def headT (tm:List (Nat×AV)) (kv ds:List Nat) (live:List (Nat×AV)):List (Nat×AV):=
 live++(kv.filter fun k=>!(ds.contains k||live.any fun p=>p.1==k)).map fun k=>(k,tmG tm k)
def headOf (st:AS) (N:Nat) (ds:List Nat) (live:List (Nat×AV)) (ls:List Nat) (hp:List (Nat×OB)):AS:=⟨headT st.tm st.kv ds live,puts (keep st.hp ls) hp,N,st.kv⟩
section
variable {P:Program} {C:List Ent} {n:Nat}
theorem hasLp_mono {s:AS} {t l:Nat} {b:Bool} {r:Loop} {K K':Prop} (h:K→K') (q:hasLp s t l b r K):hasLp s t l b r K':=by
 unfold hasLp at q⊢;split at q
 ·split at q
  ·exact ⟨q.1,q.2.1,q.2.2.1,h q.2.2.2⟩
  ·exact q
 ·exact q
theorem rnd_mono {f f':AS→Prop} (h:∀s,f s→f' s):∀e s,XQ.rnd f e s→XQ.rnd f' e s:=fun e s q=>by
 cases e with
 |normal=>exact h s q
 |exit i=>exact q
 |ret=>exact q
theorem xwp_mono:∀{c:XC} {Q Q':XQ} {s:AS},(∀e s,Q e s→Q' e s)→xwp P C n c Q s→xwp P C n c Q' s:=by
 have key:∀(c:XC) (n:Nat) (Q Q':XQ) (s:AS),(∀e s,Q e s→Q' e s)→xwp P C n c Q s→xwp P C n c Q' s:=by
  intro c;induction c with
  |skip=>intro n Q Q' s h q;exact h _ _ q
  |ret=>intro n Q Q' s h q;exact h _ _ q
  |exit i=>intro n Q Q' s h q;exact h _ _ q
  |reg d xs=>
   intro n Q Q' s h q;unfold xwp at q⊢;split at q
   ·exact ⟨q.1,h _ _ q.2⟩
   ·exact q
  |seq x y ihx ihy=>
   intro n Q Q' s h q;refine ihx _ _ _ s (fun e s q=>?_) q;cases e with
   |normal=>exact ihy _ _ _ s h q
   |exit i=>exact h _ _ q
   |ret=>exact h _ _ q
  |cond c x y ihx ihy=>
   intro n Q Q' s h q;unfold xwp at q⊢;split at q
   ·exact ⟨fun t=>ihx _ _ _ s h (q.1 t),fun t=>ihy _ _ _ s h (q.2 t)⟩
   ·exact q
  |block id x ih=>
   intro n Q Q' s h q;refine ih _ _ _ s (fun e s q=>?_) q;cases e with
   |normal=>exact h _ _ q
   |exit i=>
    simp only[XQ.blk] at q⊢;split at q
    ·rename_i e;rw[if_pos e];exact h _ _ q
    ·rename_i e;rw[if_neg e];exact h _ _ q
   |ret=>exact h _ _ q
  |clean x ih=>intro n Q Q' s h q;exact ih _ _ _ _ h q
  |icall d pre cx post f n' res kv body ih=>
   intro n Q Q' s h q;unfold xwp at q⊢;split at q
   ·rename_i p s1 hr;refine ⟨q.1,?_⟩;obtain ⟨_,q⟩:=q;split at q
    ·refine ⟨q.1,q.2.1,ih _ _ _ _ (fun e s q=>?_) q.2.2⟩;have hA:∀s,afterI C post Q s→afterI C post Q' s:=fun s q=>by
      unfold afterI at q⊢;split at q
      ·exact ⟨q.1,h _ _ q.2⟩
      ·exact q
     cases e with
     |exit i=>exact q
     |normal=>
      simp only[backQ] at q⊢;split at q
      ·exact hA _ q
      ·exact q
     |ret=>
      simp only[backQ] at q⊢;split at q
      ·exact hA _ q
      ·exact q
    ·exact q
   ·exact q
  |dead=>intro n Q Q' s h q;exact q
  |nxt d t post=>
   intro n Q Q' s h q;have hA:∀s,afterI C post Q s→afterI C post Q' s:=fun s q=>by
    unfold afterI at q⊢;split at q
    ·exact ⟨q.1,h _ _ q.2⟩
    ·exact q
   unfold xwp at q⊢;split at q
   ·split at q
    ·exact ⟨fun e=>hA _ (q.1 e),fun i p e=>hA _ (q.2 i p e)⟩
    ·exact q
   ·exact q
  |top x _=>
   intro n Q Q' s h q code hc hC B M w0 ψ a w sim ro hR;exact wpIn_mono (q code hc hC B M w0 ψ a w sim ro hR) fun e a w q=>lift_mono h e a w q
  |rfor g p xA xB f n' kv body _ _ ih=>
   intro n Q Q' s h q;unfold xwp at q⊢;split at q
   ·obtain ⟨q1,q2,q3,q4,q5⟩:=q;refine ⟨q1,q2,q3,q4,fun r hr=>ih _ _ _ _ (fun e s q=>?_) (q5 r hr)⟩;cases e with
    |exit i=>exact q
    |normal=>exact hasLp_mono (h _ _) q
    |ret=>exact hasLp_mono (h _ _) q
   ·exact q
  |yld pre cx post ky nE p kvB xA xB ihA ihB=>
   intro n Q Q' s h q;unfold xwp at q⊢;split at q
   ·refine ⟨q.1,?_⟩;obtain ⟨_,q⟩:=q;split at q
    ·split at q
     ·obtain ⟨q1,q2,q3,q4,q5⟩:=q;refine ⟨q1,q2,q3,q4,hasLp_mono (ihA _ _ _ _ (rnd_mono fun s=>hasLp_mono (ihB _ _ _ _ (rnd_mono fun s=>hasLp_mono fun q=>?_)))) q5⟩;unfold afterI at q⊢;split at q
      ·exact ⟨q.1,h _ _ q.2⟩
      ·exact q
     ·exact q
    ·exact q
   ·exact q
  |loop x _=>
   intro n Q Q' s h q code hc hC B M w0 ψ a w sim ro hR;exact wpIn_mono (q code hc hC B M w0 ψ a w sim ro hR) fun e a w q=>lift_mono h e a w q
 intro c Q Q' s h q;exact key c n Q Q' s h q
theorem XW_for {b:XC} {Q:XQ} {st:AS} (N:Nat) (ds ls:List Nat) (X:Type) (live:X→List (Nat×AV)) (hp:X→List (Nat×OB)) (inv:X→Prop) (μ:X→Nat) (x0:X) (h0:le' st (headOf st N ds (live x0) ls (hp x0))) (hi:inv x0)
  (hr:∀x,inv x→xwp P C n b (XQ.seq (fun s=>∃x',μ x'<μ x∧inv x'∧leQ s (headOf st N ds (live x') ls (hp x'))) Q) (headOf st N ds (live x) ls (hp x))):XW P C n (.loop b) Q st:=by
 refine XW_loop X (fun x=>headOf st N ds (live x) ls (hp x)) inv μ x0 (le_of h0) hi fun x hx=>?_
 refine xwp_mono (fun e s q=>?_) (hr x hx)
 cases e with
 |normal=>obtain ⟨x',h1,h2,h3⟩:=q;exact ⟨x',h1,h2,le_of h3⟩
 |exit i=>exact q
 |ret=>exact q
theorem XW_first {b:XC} {Q:XQ} {st:AS} (N:Nat) (ds ls:List Nat) (X:Type) (live:X→List (Nat×AV)) (hp:X→List (Nat×OB)) (inv:X→Prop) (μ:X→Nat) (m:Nat)
  (h1:xwp P C n b (XQ.seq (fun s=>∃x',μ x'<m∧inv x'∧leQ s (headOf st N ds (live x') ls (hp x'))) Q) st)
  (hr:∀x,inv x→xwp P C n b (XQ.seq (fun s=>∃x',μ x'<μ x∧inv x'∧leQ s (headOf st N ds (live x') ls (hp x'))) Q) (headOf st N ds (live x) ls (hp x))):XW P C n (.loop b) Q st:=by
 refine XW_loop (Option X) (fun x=>match x with|none=>st|some x=>headOf st N ds (live x) ls (hp x)) (fun x=>match x with|none=>True|some x=>inv x) (fun x=>match x with|none=>m|some x=>μ x) none (fun B M w0 ψ a w q=>⟨ψ,q⟩) trivial fun x hx=>?_
 cases x with
 |none=>
  refine xwp_mono (fun e s q=>?_) h1
  cases e with
  |normal=>obtain ⟨x',h1,h2,h3⟩:=q;exact ⟨some x',h1,h2,le_of h3⟩
  |exit i=>exact q
  |ret=>exact q
 |some x=>
  refine xwp_mono (fun e s q=>?_) (hr x hx)
  cases e with
  |normal=>obtain ⟨x',h1,h2,h3⟩:=q;exact ⟨some x',h1,h2,le_of h3⟩
  |exit i=>exact q
  |ret=>exact q
end
end T
end Go.Proofs.YtpocfbfmjippnaaGreat
end
section
namespace Go.Proofs.YtpocfbfmjippnaaGreat
open Go.RowKit Go.WideShapes
namespace T
section
variable (P:Program)
def bF (T:TypeId):Bool:=match P.underlying T with
 |some .bool=>true
 |_=>false
def iF (k:IntKind) (T:TypeId):Bool:=match P.underlying T with
 |some (.int k')=>k==k'
 |_=>false
def sF (T:TypeId):Bool:=match P.underlying T with
 |some .string=>true
 |_=>false
mutual
def tyFit:Ty→TypeId→Bool
 | .bool,T=>bF P T
 | .int k,T=>iF P k T
 | .str,T=>sF P T
 | .sl t,T=>match P.underlying T with
  |some (.slice e)=>tyFit t e&&P.cellsOf e==t.size&&t.size !=0
  |_=>false
 | .st t,T=>match P.underlying T with
  |some (.struct fs)=>chainFit t fs.toList 0&&P.cellsOf T==t.size
  |_=>false
 |_,_=>false
termination_by structural t=>t
def chainFit:Ty→List Field→Nat→Bool
 | .cons a b,fs,off=>match fs with
  |f::r=>f.offset==off&&P.cellsOf f.type==a.size&&tyFit a f.type&&chainFit b r (off+a.size)
  |[]=>false
 | .nil,fs,_=>fs.isEmpty
 | .bool,fs,off=>match fs with
  |[f]=>f.offset==off&&P.cellsOf f.type==1&&bF P f.type
  |_=>false
 | .int k,fs,off=>match fs with
  |[f]=>f.offset==off&&P.cellsOf f.type==1&&iF P k f.type
  |_=>false
 | .str,fs,off=>match fs with
  |[f]=>f.offset==off&&P.cellsOf f.type==1&&sF P f.type
  |_=>false
 | .sl t,fs,off=>match fs with
  |[f]=>f.offset==off&&P.cellsOf f.type==1&&(match P.underlying f.type with
   |some (.slice e)=>tyFit t e&&P.cellsOf e==t.size&&t.size !=0
   |_=>false)
  |_=>false
 | .st t,fs,off=>match fs with
  |[f]=>f.offset==off&&P.cellsOf f.type==t.size&&(match P.underlying f.type with
   |some (.struct fs)=>chainFit t fs.toList 0&&P.cellsOf f.type==t.size
   |_=>false)
  |_=>false
 |_,_,_=>false
termination_by structural t=>t
end
end
section
variable {P:Program} {H:Type} {enc:TypeId×Value→H} {W:World}
abbrev Tr1 (P:Program) {H:Type} (enc:TypeId×Value→H) (W:World) (fuel:Nat) (T:TypeId) (cs:List Value) (x:DataW H×List MemPlace):Prop:=DataW.trod enc P W 0 (fun _=>true) true fuel T cs=some x
def NoM:Nat→Prop:=fun _=>False
theorem mapM_mem {α β:Type} {f:α→Option β}:∀{l:List α} {r:List β},l.mapM f=some r→r.length=l.length∧∀(i:Nat) (a:α),l[i]?=some a→∃b,f a=some b
 |[],r,h=>by simp at h;subst h;exact ⟨rfl,fun i a h=>by simp at h⟩
 |x::l,r,h=>by
  simp only[List.mapM_cons,Option.bind_eq_bind,Option.bind_eq_some_iff,Option.pure_def,Option.some.injEq] at h;obtain ⟨b,hb,bs,hbs,rfl⟩:=h;obtain ⟨k1,k2⟩:=mapM_mem hbs;refine ⟨by simp[k1],fun i a hi=>?_⟩;cases i with
  |zero=>simp at hi;subst hi;exact ⟨b,hb⟩
  |succ i=>exact k2 i a (by simpa using hi)
theorem cells_at {a:Addr} {n:Nat} {cs:List Value} (h:W.cells? 0 a n=some cs):cs.length=n∧∀(j:Nat) (v:Value),cs[j]?=some v→W.cell? (a.add j)=some v:=by
 unfold World.cells? at h;simp only[Nat.zero_le,if_true] at h;have key:∀(l:List Nat) (cs:List Value),l.mapM (fun i=>W.cell? (a.add i))=some cs→cs.length=l.length∧∀(j:Nat) (v:Value),cs[j]?=some v→∃i,l[j]?=some i∧W.cell? (a.add i)=some v:=by
  intro l;induction l with
  |nil=>intro cs h;simp at h;subst h;exact ⟨rfl,fun j v h=>by simp at h⟩
  |cons x l ih=>
   intro cs h;simp only[List.mapM_cons,Option.bind_eq_bind,Option.bind_eq_some_iff,Option.pure_def,Option.some.injEq] at h;obtain ⟨b,hb,bs,hbs,rfl⟩:=h;obtain ⟨k1,k2⟩:=ih bs hbs;refine ⟨by simp[k1],fun j v hj=>?_⟩;cases j with
   |zero=>simp at hj;subst hj;exact ⟨x,rfl,hb⟩
   |succ j=>simpa using k2 j v (by simpa using hj)
 obtain ⟨k1,k2⟩:=key _ _ h;refine ⟨by simpa using k1,fun j v hj=>?_⟩;obtain ⟨i,hi,hv⟩:=k2 j v hj;have:i=j:=by
  rw[List.getElem?_range (by have:=(List.getElem?_eq_some_iff.1 hi).1;simpa using this)] at hi;injection hi with hi;exact hi.symm
 rw[this] at hv;exact hv
theorem rows_of {t:Ty} {b off s:Nat} (hs:s=t.size):∀(n k:Nat),(∀i,k≤i→i<k+n→∃(cs:List Value) (x:t.den),cs.length=s∧CellsAt W b (off+i*s) cs∧Rd P t W NoM x cs)→
  ∃(d:List t.den) (cc:List Value),d.length=n∧CellsAt W b (off+k*s) cc∧RowsBy (fun x c=>Rd P t W NoM x c) d cc
 |0,k,_=>⟨[],[],rfl,fun j v h=>by simp at h,rfl⟩
 |n+1,k,h=>by
  obtain ⟨cs,x,h1,h2,h3⟩:=h k (Nat.le_refl _) (by omega);obtain ⟨d,cc,k1,k2,k3⟩:=rows_of hs n (k+1) (fun i hi hi'=>h i (by omega) (by omega));refine ⟨x::d,cs++cc,by simp[k1],h2.append ?_,cs,cc,rfl,h3,k3⟩;rw[h1];have:off+k*s+s=off+(k+1)*s:=by rw[Nat.add_mul];omega
  rw[this];exact k2
theorem trod_fields {fuel:Nat} {cs:List Value} {fs:List Field} {xs:List (DataW H×List MemPlace)} (h:fs.mapM (fun f=>DataW.trod enc P W 0 (fun _=>true) true fuel f.type ((cs.drop f.offset).take (P.cellsOf f.type)))=some xs):
  ∀f∈fs,∃y,Tr1 P enc W fuel f.type ((cs.drop f.offset).take (P.cellsOf f.type)) y:=by
 intro f hf
 obtain ⟨i,hi⟩:=List.getElem?_of_mem hf
 exact (mapM_mem h).2 i f hi
theorem slice_open {fuel:Nat} {T e:TypeId} {t:Ty} {cs:List Value} {y:DataW H×List MemPlace} (hu:P.underlying T=some (.slice e)) (hsz:P.cellsOf e=t.size) (h0:t.size≠0)
  (ih:∀(fuel:Nat) (cs:List Value) (y:DataW H×List MemPlace),Tr1 P enc W fuel e cs y→∃x:t.den,Rd P t W NoM x cs) (h:Tr1 P enc W fuel T cs y):∃x:List t.den,Rd P (.sl t) W NoM x cs:=by
 cases fuel with
 |zero=>simp[Tr1,DataW.trod] at h
 |succ fuel=>
  unfold Tr1 DataW.trod at h
  rw[hu] at h
  cases cs with
  |nil=>simp at h
  |cons v r=>
   cases r with
   |cons _ _=>cases v<;>simp at h
   |nil=>
    cases v<;>(try (simp at h;done))
    rename_i A len cap
    cases A with
    |none=>
     cases len<;>cases cap<;>simp at h
     exact ⟨[],none,0,0,rfl,rfl,Nat.le_refl _,Nat.zero_le _,.inl rfl⟩
    |some a=>
     simp only[Nat.zero_le,true_and] at h
     split at h
     ·rename_i hle
      simp only[Option.bind_eq_some_iff] at h
      obtain ⟨elems,he,_⟩:=h
      obtain ⟨_,h2⟩:=mapM_mem he
      have hel:∀i,i<len→∃(cs:List Value) (x:t.den),cs.length=t.size∧(∀(j:Nat) (v:Value),cs[j]?=some v→W.cell? ((a.add (i*t.size)).add j)=some v)∧Rd P t W NoM x cs:=by
       intro i hi;obtain ⟨b,hb⟩:=h2 i i (by simp[hi]);simp only[Option.bind_eq_some_iff] at hb;obtain ⟨cs,hcs,hb⟩:=hb;obtain ⟨x,hx⟩:=ih fuel cs b hb;rw[hsz] at hcs;obtain ⟨k1,k2⟩:=cells_at hcs;exact ⟨cs,x,k1,k2,hx⟩
      by_cases hl:len=0
      ·exact ⟨[],some a,len,cap,rfl,hl.symm,hle.1,hle.2,.inl hl⟩
      ·have ht:=h0
       ·obtain ⟨b,off,spot⟩:=a
        have hspot:spot=none:=by
         obtain ⟨cs,x,k1,k2,_⟩:=hel 0 (by omega);have:=k2 0 (cs[0]'(by omega)) (by simp[show 0<cs.length by omega]);have:=World.cell?_spot this;simpa [Addr.add] using this
        subst hspot
        obtain ⟨d,cc,k1,k2,k3⟩:=rows_of (P:=P) (W:=W) (t:=t) (b:=b) (off:=off) rfl len 0 (fun i _ hi=>by
         obtain ⟨cs,x,q1,q2,q3⟩:=hel i (by omega);refine ⟨cs,x,q1,fun j v hj=>?_,q3⟩;have:=q2 j v hj;rwa [Addr.add_mid,Addr.add_mid] at this)
        have hb:b<W.heap.size:=by
         obtain ⟨cs,x,q1,q2,_⟩:=hel 0 (by omega);have:=q2 0 (cs[0]'(by omega)) (by simp[show 0<cs.length by omega]);have:=World.block_lt_of_cell? W _ this;simpa [Addr.add_mid] using this
        exact ⟨d,some ⟨b,off,none⟩,len,cap,rfl,k1,hle.1,hle.2,.inr ⟨b,off,cc,rfl,hb,fun h=>h,by simpa using k2,k3⟩⟩
     ·cases h
theorem bool_open {fuel:Nat} {T:TypeId} {cs:List Value} {y:DataW H×List MemPlace} (hu:P.underlying T=some .bool) (h:Tr1 P enc W fuel T cs y):∃x:Bool,Rd P .bool W NoM x cs:=by
 cases fuel with
 |zero=>simp[Tr1,DataW.trod] at h
 |succ fuel=>
  unfold Tr1 DataW.trod at h;rw[hu] at h;cases cs with
  |nil=>simp at h
  |cons v r=>
   cases r with
   |cons _ _=>cases v<;>simp at h
   |nil=>cases v<;>simp at h;exact ⟨_,rfl⟩
theorem int_open {fuel:Nat} {T:TypeId} {k:IntKind} {cs:List Value} {y:DataW H×List MemPlace} (hu:P.underlying T=some (.int k)) (h:Tr1 P enc W fuel T cs y):∃x:Int,Rd P (.int k) W NoM x cs:=by
 cases fuel with
 |zero=>simp[Tr1,DataW.trod] at h
 |succ fuel=>
  unfold Tr1 DataW.trod at h;rw[hu] at h;cases cs with
  |nil=>simp at h
  |cons v r=>
   cases r with
   |cons _ _=>cases v<;>simp at h
   |nil=>
    cases v<;>simp at h;obtain ⟨⟨rfl,hwf⟩,_⟩:=h;refine ⟨_,rfl,?_⟩;simpa [Lit.wf] using hwf
theorem str_open {fuel:Nat} {T:TypeId} {cs:List Value} {y:DataW H×List MemPlace} (hu:P.underlying T=some .string) (h:Tr1 P enc W fuel T cs y):∃x:ByteArray,Rd P .str W NoM x cs:=by
 cases fuel with
 |zero=>simp[Tr1,DataW.trod] at h
 |succ fuel=>
  unfold Tr1 DataW.trod at h;rw[hu] at h;cases cs with
  |nil=>simp at h
  |cons v r=>
   cases r with
   |cons _ _=>cases v<;>simp at h
   |nil=>
    cases v<;>simp at h;exact ⟨_,rfl,h.1⟩
theorem struct_open {fuel:Nat} {T:TypeId} {fs:Array Field} {cs:List Value} {y:DataW H×List MemPlace} (hu:P.underlying T=some (.struct fs)) (h:Tr1 P enc W fuel T cs y):
  cs.length=P.cellsOf T∧∃fuel,∀f∈fs.toList,∃y,Tr1 P enc W fuel f.type ((cs.drop f.offset).take (P.cellsOf f.type)) y:=by
 cases fuel with
 |zero=>simp[Tr1,DataW.trod] at h
 |succ fuel=>
  unfold Tr1 DataW.trod at h
  rw[hu] at h
  have h':(if cs.length=P.cellsOf T then (fs.toList.mapM fun f=>DataW.trod enc P W 0 (fun _=>true) true fuel f.type ((cs.drop f.offset).take (P.cellsOf f.type))).map fun xs=>(DataW.agg (xs.map (·.1)),xs.flatMap (·.2)) else none)=some y:=by
   cases cs with
   |nil=>exact h
   |cons v r=>cases v<;>exact h
  split at h'
  ·rename_i hl
   obtain ⟨xs,hxs,_⟩:=Option.map_eq_some_iff.1 h'
   exact ⟨hl,fuel,trod_fields hxs⟩
  ·cases h'
mutual
theorem open_ty:∀{t:Ty} {T:TypeId},tyFit P t T=true→∀(fuel:Nat) (cs:List Value) (y:DataW H×List MemPlace),Tr1 P enc W fuel T cs y→∃x:t.den,Rd P t W NoM x cs
 | .bool,T,hf,fuel,cs,y,h=>by
  simp only[tyFit,bF] at hf;split at hf
  ·rename_i hu;exact bool_open hu h
  ·cases hf
 | .int k,T,hf,fuel,cs,y,h=>by
  simp only[tyFit,iF] at hf;split at hf
  ·rename_i hu;simp only[beq_iff_eq] at hf;subst hf;exact int_open hu h
  ·cases hf
 | .str,T,hf,fuel,cs,y,h=>by
  simp only[tyFit,sF] at hf;split at hf
  ·rename_i hu;exact str_open hu h
  ·cases hf
 | .sl t,T,hf,fuel,cs,y,h=>by
  simp only[tyFit] at hf;split at hf
  ·rename_i e hu;simp only[Bool.and_eq_true,beq_iff_eq,bne_iff_ne] at hf;exact slice_open hu hf.1.2 hf.2 (fun fuel cs y h=>open_ty hf.1.1 fuel cs y h) h
  ·cases hf
 | .st t,T,hf,fuel,cs,y,h=>by
  simp only[tyFit] at hf;split at hf
  ·rename_i fs hu;simp only[Bool.and_eq_true,beq_iff_eq] at hf;obtain ⟨hl,fuel',hfs⟩:=struct_open hu h;obtain ⟨x,hx⟩:=open_chain hf.1 fuel' cs hfs;refine ⟨x,?_⟩;rw[List.drop_zero,List.take_of_length_le (by rw[hl,hf.2];exact Nat.le_refl _)] at hx;exact hx
  ·cases hf
 | .ptr _,_,hf,_,_,_,_=>by simp[tyFit] at hf
 | .nil,_,hf,_,_,_,_=>by simp[tyFit] at hf
 | .cons _ _,_,hf,_,_,_,_=>by simp[tyFit] at hf
 | .fn _ _,_,hf,_,_,_,_=>by simp[tyFit] at hf
 | .fn2 _ _ _,_,hf,_,_,_,_=>by simp[tyFit] at hf
 | .mp _ _,_,hf,_,_,_,_=>by simp[tyFit] at hf
theorem open_chain:∀{t:Ty} {fs:List Field} {off:Nat},chainFit P t fs off=true→∀(fuel:Nat) (cs:List Value),(∀f∈fs,∃y,Tr1 P enc W fuel f.type ((cs.drop f.offset).take (P.cellsOf f.type)) y)→∃x:t.den,Rd P t W NoM x ((cs.drop off).take t.size)
 | .cons a b,fs,off,hf,fuel,cs,h=>by
  cases fs with
  |nil=>simp[chainFit] at hf
  |cons f r=>
   simp only[chainFit,Bool.and_eq_true,beq_iff_eq] at hf;obtain ⟨⟨⟨h1,h2⟩,h3⟩,h4⟩:=hf;obtain ⟨y,hy⟩:=h f (by simp);rw[h1,h2] at hy;obtain ⟨x1,hx1⟩:=open_ty h3 fuel _ y hy;obtain ⟨x2,hx2⟩:=open_chain h4 fuel cs fun g hg=>h g (by simp[hg]);refine ⟨(x1,x2),_,_,?_,hx1,hx2⟩;rw[←List.drop_drop,show (Ty.cons a b).size=a.size+b.size from rfl,List.take_add]
 | .nil,fs,off,hf,fuel,cs,h=>⟨(),by simp[Ty.size,Rd]⟩
 | .bool,fs,off,hf,fuel,cs,h=>by
  cases fs with
  |nil=>simp[chainFit] at hf
  |cons f r=>
  cases r with
  |cons _ _=>simp[chainFit] at hf
  |nil=>
   simp only[chainFit,Bool.and_eq_true,beq_iff_eq] at hf;obtain ⟨⟨h1,h2⟩,h3⟩:=hf;obtain ⟨y,hy⟩:=h f (by simp);rw[h1,h2] at hy;simp only[bF,iF,sF] at h3;split at h3
   ·rename_i hu;exact bool_open hu hy
   ·cases h3
 | .int k,fs,off,hf,fuel,cs,h=>by
  cases fs with
  |nil=>simp[chainFit] at hf
  |cons f r=>
  cases r with
  |cons _ _=>simp[chainFit] at hf
  |nil=>
   simp only[chainFit,Bool.and_eq_true,beq_iff_eq] at hf;obtain ⟨⟨h1,h2⟩,h3⟩:=hf;obtain ⟨y,hy⟩:=h f (by simp);rw[h1,h2] at hy;simp only[bF,iF,sF] at h3;split at h3
   ·rename_i hu;simp only[beq_iff_eq] at h3;subst h3;exact int_open hu hy
   ·cases h3
 | .str,fs,off,hf,fuel,cs,h=>by
  cases fs with
  |nil=>simp[chainFit] at hf
  |cons f r=>
  cases r with
  |cons _ _=>simp[chainFit] at hf
  |nil=>
   simp only[chainFit,Bool.and_eq_true,beq_iff_eq] at hf;obtain ⟨⟨h1,h2⟩,h3⟩:=hf;obtain ⟨y,hy⟩:=h f (by simp);rw[h1,h2] at hy;simp only[bF,iF,sF] at h3;split at h3
   ·rename_i hu;exact str_open hu hy
   ·cases h3
 | .sl t,fs,off,hf,fuel,cs,h=>by
  cases fs with
  |nil=>simp[chainFit] at hf
  |cons f r=>
  cases r with
  |cons _ _=>simp[chainFit] at hf
  |nil=>
   simp only[chainFit,Bool.and_eq_true,beq_iff_eq] at hf;obtain ⟨⟨h1,h2⟩,h3⟩:=hf;obtain ⟨y,hy⟩:=h f (by simp);rw[h1,h2] at hy;split at h3
   ·rename_i e hu;simp only[Bool.and_eq_true,beq_iff_eq,bne_iff_ne] at h3;exact slice_open hu h3.1.2 h3.2 (fun fuel cs y h=>open_ty h3.1.1 fuel cs y h) hy
   ·cases h3
 | .st t,fs,off,hf,fuel,cs,h=>by
  cases fs with
  |nil=>simp[chainFit] at hf
  |cons f r=>
  cases r with
  |cons _ _=>simp[chainFit] at hf
  |nil=>
   simp only[chainFit,Bool.and_eq_true,beq_iff_eq] at hf;obtain ⟨⟨h1,h2⟩,h3⟩:=hf;obtain ⟨y,hy⟩:=h f (by simp);rw[h1,h2] at hy;split at h3
   ·rename_i gs hu;simp only[Bool.and_eq_true,beq_iff_eq] at h3;obtain ⟨hl,fuel',hfs⟩:=struct_open hu hy;obtain ⟨x,hx⟩:=open_chain h3.1 fuel' _ hfs;refine ⟨x,?_⟩;rw[List.drop_zero,List.take_of_length_le (by rw[hl,h3.2];exact Nat.le_refl _)] at hx;exact hx
   ·cases h3
 | .ptr _,_,_,hf,_,_,_=>by simp[chainFit] at hf
 | .fn _ _,_,_,hf,_,_,_=>by simp[chainFit] at hf
 | .fn2 _ _ _,_,_,hf,_,_,_=>by simp[chainFit] at hf
 | .mp _ _,_,_,hf,_,_,_=>by simp[chainFit] at hf
end
theorem fit_shape {t:Ty} {T:TypeId} {r:Reach} {b:Nat} {v:Value} (hf:tyFit P t T=true) (hv:Value.okWide P W r b T v):t.shape v:=by
 unfold Ty.shape;cases t<;>simp only[tyFit,bF,iF,sF,Bool.false_eq_true] at hf<;>split at hf<;>(try (cases hf;done))
 all_goals
  rename_i hu
  simp only[Value.okWide,hu] at hv
  simp only[Ty.isSt,Bool.false_eq_true,iff_false,iff_true]
 ·rintro ⟨cs,rfl⟩;simp[Cell.okWide,Cell.ok,hu] at hv
 ·rintro ⟨cs,rfl⟩;simp[Cell.okWide,Cell.ok,hu] at hv
 ·rintro ⟨cs,rfl⟩;simp[Cell.okWide,Cell.ok,hu] at hv
 ·rintro ⟨cs,rfl⟩;simp[Cell.okWide,Cell.ok,hu] at hv
 ·obtain ⟨cs,h,_⟩:=hv;exact ⟨cs,h⟩
theorem open_arg {t:Ty} {T:TypeId} {r:Reach} {b:Nat} {v:Value} {d:DataW H} {p:List MemPlace} (hf:tyFit P t T=true) (hv:Value.okWide P W r b T v) (h:DataW.Trod enc P W 0 (fun _=>true) true T v d p):∃x:t.den,RdV P t W NoM x v:=by
 obtain ⟨fuel,h⟩:=h;obtain ⟨x,hx⟩:=open_ty hf fuel _ _ h;exact ⟨x,fit_shape hf hv,hx⟩
end
end T
end Go.Proofs.YtpocfbfmjippnaaGreat
end
section
namespace Go.Proofs.YtpocfbfmjippnaaGreat
open Go.RowKit
namespace T
def Fit:(t:Ty)→t.den→Prop
 | .bool,_=>True
 | .int k,d=>k.min≤d∧d≤k.max
 | .str,d=>d.size≤maxLen
 | .sl t,d=>d.length≤maxLen∧∀x∈d,Fit t x
 | .ptr t,d=>Fit t d
 | .st t,d=>Fit t d
 | .nil,_=>True
 | .cons a b,d=>Fit a d.1∧Fit b d.2
 | .fn _ _,_=>True
 | .fn2 _ _ _,_=>True
 | .mp k _,d=>(d.map (·.1)).Nodup∧∀p∈d,k.min≤p.1∧p.1≤k.max
section
variable {P:Program} {C:List Ent}
theorem RowsBy.all {α:Type} {R:α→List Value→Prop} {p:α→Prop} (h:∀x c,R x c→p x):∀{xs:List α} {cs:List Value},RowsBy R xs cs→∀x∈xs,p x
 |[],_,_,x,hx=>by simp at hx
 |y::ys,_,⟨c,r,_,h1,h2⟩,x,hx=>by
  rcases List.mem_cons.1 hx with rfl|hx
  ·exact h _ _ h1
  ·exact RowsBy.all h h2 x hx
theorem Rd.fit {w:World} {M:Nat→Prop}:∀{t:Ty} {d:t.den} {cs:List Value},Rd P t w M d cs→Fit t d
 | .bool,_,_,_=>trivial
 | .int _,_,_,h=>h.2
 | .str,_,_,h=>h.2
 | .sl t,d,_,⟨A,n,c,_,h1,h2,h3,h4⟩=>by
  have h1':List.length d=n:=h1;refine ⟨by show List.length d≤_;omega,?_⟩;rcases h4 with rfl|⟨b,off,cc,_,_,_,_,hr⟩
  ·intro x hx;have:d=[]:=List.eq_nil_of_length_eq_zero h1';rw[this] at hx;exact absurd hx List.not_mem_nil
  ·exact RowsBy.all (p:=Fit t) (fun x c q=>Rd.fit q) hr
 | .ptr t,d,_,⟨_,_,_,_,_,_,_,h⟩=>Rd.fit (t:=t) h
 | .st t,d,_,h=>Rd.fit (t:=t) h
 | .nil,_,_,_=>trivial
 | .cons a b,d,_,⟨_,_,_,h1,h2⟩=>⟨Rd.fit (t:=a) h1,Rd.fit (t:=b) h2⟩
 | .fn _ _,_,_,_=>trivial
 | .fn2 _ _ _,_,_,_=>trivial
 | .mp k t,d,_,⟨_,es,_,_,_,_,_,hst,hes,hv⟩=>by
  refine ⟨?_,fun p hp=>(hv p hp).1⟩;have h1:=hst.2.2;have h2:es.toList.map (·.key)=(d.map (·.1)).map (Value.int k):=by
   have:=congrArg (List.map Prod.fst) hes;rw[List.map_map,List.map_map] at this;rw[List.map_map];exact this
  rw[h2,List.Nodup,List.pairwise_map] at h1;exact h1.imp fun h e=>h (by rw[e])
theorem RdL.fit {w:World} {M:Nat→Prop}:∀{t:Ty} {d:t.den} {vs:List Value},RdL P t w M d vs→Fit t d
 | .nil,_,_,_=>trivial
 | .cons a b,d,_,⟨_,_,_,h1,h2⟩=>⟨h1.2.fit,RdL.fit (t:=b) h2⟩
 | .bool,_,_,h=>h.elim
 | .int _,_,_,h=>h.elim
 | .str,_,_,h=>h.elim
 | .sl _,_,_,h=>h.elim
 | .ptr _,_,_,h=>h.elim
 | .st _,_,_,h=>h.elim
 | .fn _ _,_,_,h=>h.elim
 | .fn2 _ _ _,_,_,h=>h.elim
 | .mp _ _,_,_,h=>h.elim
theorem con_fit {e:Ent} (ho:e.own=false) (h1:Con P ⟨e.f,e.a,e.r,e.many,e.fresh,fun x=>e.pre x∧Fit e.a x,e.F⟩):Con P e:=
 have h:=h1.is ho
 Con.to ⟨h.1,fun x hx w M vs hM hvs=>h.2 x ⟨hx,hvs.fit⟩ w M vs hM hvs⟩ ho
theorem markOk.own2 {dm:Bool} {e:Ent} {xf:XF} {p:Bool} (h:(p&&markOk dm e xf)=true):e.own=false:=by rw[Bool.and_eq_true] at h;exact markOk.own h.2
theorem con_is {e:Ent} (xf:XF) (hchk:(funcChk P e xf&&markOk false e xf)=true) (hC:∀e∈C,Con P e) (h:∀x,e.pre x→Fit e.a x→xwp P C xf.n xf.code (retQ xf.res e.many e.fresh e.r (e.F x)) (enter xf.kv e.a x)):Con P e:=
 con_fit (markOk.own2 hchk) (con_of xf hchk hC fun x hx=>h x hx.1 hx.2)
theorem con_isM {e:Ent} (xf:XF) (hchk:(funcChk P e xf&&markOk true e xf)=true) (hC:∀e∈C,Con P e) (h:∀x,e.pre x→Fit e.a x→xwp P C xf.n xf.code (retQ xf.res e.many e.fresh e.r (e.F x)) (enter xf.kv e.a x)):Con P e:=
 con_fit (markOk.own2 hchk) (con_ofM xf hchk hC fun x hx=>h x hx.1 hx.2)
@[congr] theorem XW_congr {n:Nat} {c:XC} {Q:XQ} {st st':AS} (h:st=st'):XW P C n c Q st=XW P C n c Q st':=by rw[h]
@[congr] theorem xwp_congr {n:Nat} {c:XC} {Q:XQ} {st st':AS} (h:st=st'):xwp P C n c Q st=xwp P C n c Q st':=by rw[h]
variable {n:Nat} {Q:XQ} {st:AS} {a b:XC}
def thn (P:Program) (C:List Ent) (n:Nat) (b:XC) (Q:XQ):XQ:=XQ.seq (xwp P C n b Q) Q
theorem thn_n:thn P C n b Q .normal st=xwp P C n b Q st:=rfl
theorem thn_e {i:Nat}:thn P C n b Q (.exit i) st=Q (.exit i) st:=rfl
theorem thn_r:thn P C n b Q .ret st=Q .ret st:=rfl
theorem xwp_seq:xwp P C n (.seq a b) Q st=xwp P C n a (thn P C n b Q) st:=rfl
theorem xwp_skip:xwp P C n .skip Q st=Q .normal st:=rfl
theorem xwp_ret:xwp P C n .ret Q st=Q .ret st:=rfl
theorem xwp_exit {i:Nat}:xwp P C n (.exit i) Q st=Q (.exit i) st:=rfl
theorem xwp_block {i:Nat}:xwp P C n (.block i b) Q st=xwp P C n b (XQ.blk i Q) st:=rfl
theorem xwp_loop:xwp P C n (.loop b) Q st=XW P C n (.loop b) Q st:=rfl
theorem xwp_icall {d:Bool} {pre:List XO} {cx:XO} {post:List XO} {f:FuncId} {n':Nat} {res:List XR} {kv:List Nat} {body:XC}:xwp P C n (.icall d pre cx post f n' res kv body) Q st=match runR C d st pre with
  |some (p,s1)=>p∧match cx.args.map (XA.av s1.tm) with
   | .clo f' cap::bs=>f'=f∧(bs++cap).length≤n'∧xwp P C n' body (backQ n' s1.kv (keepI s1 post) cx.dst res (afterI C post Q)) (entI n' kv (bs++cap) (keepI s1 post) s1)
   |_=>False
  |none=>False:=rfl
theorem backQ_n {n':Nat} {kv0 keep:List Nat} {d:Option Nat} {res:List XR} {K:AS→Prop} {s:AS}:backQ n' kv0 keep d res K .normal s=match resAll s res with
  |some avs=>K (exI n' kv0 keep d (oneAV avs) s)
  |none=>False:=rfl
theorem backQ_r {n':Nat} {kv0 keep:List Nat} {d:Option Nat} {res:List XR} {K:AS→Prop} {s:AS}:backQ n' kv0 keep d res K .ret s=match resAll s res with
  |some avs=>K (exI n' kv0 keep d (oneAV avs) s)
  |none=>False:=rfl
theorem backQ_e {n':Nat} {kv0 keep:List Nat} {d:Option Nat} {res:List XR} {K:AS→Prop} {s:AS} {i:Nat}:backQ n' kv0 keep d res K (.exit i) s=False:=rfl
theorem xwp_reg {d:Bool} {xs:List XO}:xwp P C n (.reg d xs) Q st=match runR C d st xs with
  |some (p,st')=>p∧Q .normal st'
  |none=>False:=rfl
theorem xwp_cond {c:XA}:xwp P C n (.cond c a b) Q st=match condOf (c.av st.tm) with
  |some t=>(t.1→xwp P C n a Q st)∧(t.2→xwp P C n b Q st)
  |none=>False:=rfl
theorem xwp_clean:xwp P C n (.clean a) Q st=xwp P C n a Q (cleanS st):=rfl
theorem xwp_top {c:XC}:xwp P C n (.top c) Q st=XW P C n (.top c) Q st:=rfl
theorem xwp_dead:xwp P C n .dead Q st=False:=rfl
theorem xwp_nxt {d t:Nat} {post:List XO}:xwp P C n (.nxt d t post) Q st=match tmG st.tm t with
  | .ptr l 0=>match look st.hp l with
   |some (.it k ty left _)=>(left=[]→afterI C post Q (nxF st d))∧∀i p,left[i]?=some p→afterI C post Q (nxT st d l k ty left i p)
   |_=>False
  |_=>False:=rfl
theorem xwp_rfor {g:XA} {p:Nat} {xA xB:XC} {f:FuncId} {n':Nat} {kv:List Nat} {body:XC}:xwp P C n (.rfor g p xA xB f n' kv body) Q st=match g.av st.tm with
  | .bnd f' avs=>f'=f∧avs.length+1≤n'∧st.kv.all (· <n)=true∧p<n∧∀r,LoopOk P n p xA xB r→xwp P C n' body (backR n n' st.kv st.nx r Q) (entR n n' kv avs r st)
  |_=>False:=rfl
def rndA (P:Program) (C:List Ent) (ky l nE:Nat) (r:Loop) (xB:XC) (kv0 kp:List Nat) (d:Option Nat) (post:List XO) (Q:XQ):XQ:=
 XQ.rnd fun s=>hasLp s (nE+ky) l false r (xwp P C nE xB (XQ.rnd fun s=>hasLp s (nE+ky) l true r (afterI C post Q (exI nE kv0 kp d (.val .bool true) (setLp false l r s)))) (setLp true l r s))
def rndB (C:List Ent) (ky l nE:Nat) (r:Loop) (kv0 kp:List Nat) (d:Option Nat) (post:List XO) (Q:XQ):XQ:=
 XQ.rnd fun s=>hasLp s (nE+ky) l true r (afterI C post Q (exI nE kv0 kp d (.val .bool true) (setLp false l r s)))
theorem rndA_n {ky l nE:Nat} {r:Loop} {xB:XC} {kv0 kp:List Nat} {d:Option Nat} {post:List XO}:rndA P C ky l nE r xB kv0 kp d post Q .normal st=hasLp st (nE+ky) l false r (xwp P C nE xB (rndB C ky l nE r kv0 kp d post Q) (setLp true l r st)):=rfl
theorem rndB_n {ky l nE:Nat} {r:Loop} {kv0 kp:List Nat} {d:Option Nat} {post:List XO}:rndB C ky l nE r kv0 kp d post Q .normal st=hasLp st (nE+ky) l true r (afterI C post Q (exI nE kv0 kp d (.val .bool true) (setLp false l r st))):=rfl
theorem rndA_x {ky l nE i:Nat} {r:Loop} {xB:XC} {kv0 kp:List Nat} {d:Option Nat} {post:List XO}:rndA P C ky l nE r xB kv0 kp d post Q (.exit i) st=False:=rfl
theorem rndB_x {ky l nE i:Nat} {r:Loop} {kv0 kp:List Nat} {d:Option Nat} {post:List XO}:rndB C ky l nE r kv0 kp d post Q (.exit i) st=False:=rfl
theorem rndA_r {ky l nE:Nat} {r:Loop} {xB:XC} {kv0 kp:List Nat} {d:Option Nat} {post:List XO}:rndA P C ky l nE r xB kv0 kp d post Q .ret st=False:=rfl
theorem rndB_r {ky l nE:Nat} {r:Loop} {kv0 kp:List Nat} {d:Option Nat} {post:List XO}:rndB C ky l nE r kv0 kp d post Q .ret st=False:=rfl
theorem xwp_yld {pre:List XO} {cx:XO} {post:List XO} {ky nE p:Nat} {kvB:List Nat} {xA xB:XC}:xwp P C n (.yld pre cx post ky nE p kvB xA xB) Q st=match runT C st pre with
  |some (q,s1)=>q∧match cx.args.map (XA.av s1.tm) with
   |[.yl l ks avs,b]=>match look s1.hp l with
    |some (.lp false r)=>LoopOk P nE p xA xB r∧p<nE∧ks.all (· <nE)=true∧s1.kv.contains ky=true∧hasLp s1 ky l false r
     (xwp P C nE xA (rndA P C ky l nE r xB s1.kv (keepI s1 post) cx.dst post Q) (entY nE p kvB b ks avs (keepI s1 post) s1))
    |_=>False
   |_=>False
  |none=>False:=rfl
theorem backR_n {n0 n' l:Nat} {kv0:List Nat} {r:Loop}:backR n0 n' kv0 l r Q .normal st=hasLp st (n'+n0) l false r (Q .normal ⟨kv0.map fun k=>(k,tmG st.tm (n'+k)),killL st.hp [l],st.nx,kv0⟩):=rfl
theorem backR_r {n0 n' l:Nat} {kv0:List Nat} {r:Loop}:backR n0 n' kv0 l r Q .ret st=hasLp st (n'+n0) l false r (Q .normal ⟨kv0.map fun k=>(k,tmG st.tm (n'+k)),killL st.hp [l],st.nx,kv0⟩):=rfl
theorem backR_e {n0 n' l i:Nat} {kv0:List Nat} {r:Loop}:backR n0 n' kv0 l r Q (.exit i) st=False:=rfl
theorem hasLp_mk {tm:List (Nat×AV)} {hp:List (Nat×OB)} {nx:Nat} {kv:List Nat} {t l:Nat} {b:Bool} {r:Loop} {K:Prop}:hasLp ⟨tm,hp,nx,kv⟩ t l b r K=match tmG tm t with
 | .yl l' _ _=>match look hp l with
  |some (.lp bs r')=>l'=l∧bs=b∧r'=r∧K
  |_=>False
 |_=>False:=rfl
theorem eqf (b:Bool):(b==false)= !b:=by cases b<;>rfl
theorem eqt (b:Bool):(b==true)=b:=by cases b<;>rfl
theorem bif_and (a b:Bool):(bif a then b else false)=(a&&b):=by cases a<;>rfl
theorem bif_or (a b:Bool):(bif a then true else b)=(a||b):=by cases a<;>rfl
theorem eq_of_iff {a b:Bool} (h:a=true↔b=true):a=b:=Bool.eq_iff_iff.2 h
end
section
def quiet:List Tr→Bool
 |[]=>true
 |t::r=>t.e.tch.isEmpty&&quiet r
theorem quiet_ok:∀{ts:List Tr} (_:quiet ts=true) (i:Nat),okD i ts=true
 |[],_,_=>rfl
 |t::r,h,i=>by
  unfold quiet at h;simp only[Bool.and_eq_true,List.isEmpty_iff] at h;have h2:∀{r:List Tr},quiet r=true→∀b∈r,b.e.tch=[]:=by
   intro r;induction r with
   |nil=>intro _ b hb;cases hb
   |cons c r ih=>
    intro hq b hb;unfold quiet at hq;simp only[Bool.and_eq_true,List.isEmpty_iff] at hq;rcases List.mem_cons.1 hb with rfl|hb
    ·exact hq.1
    ·exact ih hq.2 b hb
  unfold okD;rw[Bool.and_eq_true];refine ⟨List.all_eq_true.2 fun b hb=>?_,quiet_ok h.2 _⟩;split
  ·rfl
  ·unfold meet;rw[h.1,h2 h.2 b hb];rfl
def fastD (P:Option (Prop×AS×List Tr)):Option (Prop×AS):=match P with
 |none=>none
 |some (p,st',ts)=>if quiet ts=true then some (p,st') else if okD 0 ts=true then some (p,st') else none
theorem runR_true {C:List Ent} {st:AS} {xs:List XO}:runR C true st xs=fastD (runD C st xs):=by
 unfold runR;rw[if_pos rfl];cases runD C st xs with
 |none=>rfl
 |some r=>
  obtain ⟨p,st',ts⟩:=r;unfold fastD;simp only;by_cases h:quiet ts=true
  ·rw[if_pos h,if_pos (quiet_ok h 0)]
  ·rw[if_neg h]
theorem runR_false {C:List Ent} {st:AS} {xs:List XO}:runR C false st xs=runT C st xs:=rfl
end
end T
end Go.Proofs.YtpocfbfmjippnaaGreat
end
section
namespace Go.Proofs.YtpocfbfmjippnaaGreat
open Go.RowKit
namespace T
def chP:List Ty→Ty
 |[]=>.nil
 |[x]=>x
 |x::r=>.cons x (chP r)
def tyP (P:Program):Nat→TypeId→Ty
 |0,_=>.nil
 |n+1,t=>match P.underlying t with
  |some .bool=>.bool
  |some (.int k)=>.int k
  |some .string=>.str
  |some (.slice e)=>.sl (tyP P n e)
  |some (.pointer e)=>.ptr (tyP P n e)
  |some (.map k e)=>match P.underlying k with
   |some (.int q)=>.mp q (tyP P n e)
   |_=>.nil
  |some (.func _ _ _)=>.fn .nil .nil
  |some (.struct fs)=>.st (chP (fs.toList.map fun f=>tyP P n f.type))
  |_=>.nil
def xaP:Operand→XA
 | .tmp t=>.t t
 | .const (.int k n)=>.int k n
 | .const (.bool b)=>.bool b
 | .const (.slice none 0 0)=>.nil
 | .const (.pointer none)=>.nilp
 | .const (.map none)=>.nilm
 | .const (.string s)=>.str s
 | .func f=>.fn f
 |_=>.nil
def nlP:Operand→Bool
 | .const (.slice none 0 0)=>true
 |_=>false
section
variable (P:Program)
def elP (t:TypeId):TypeId:=match P.underlying t with
 |some (.slice e)=>e
 |_=>0
def mpP (t:TypeId):IntKind×Ty:=match P.underlying t with
 |some (.map k e)=>match P.underlying k with
  |some (.int q)=>(q,tyP P 9 e)
  |_=>(.i64,.nil)
 |_=>(.i64,.nil)
def fdP (t:TypeId) (f:Nat):Nat×TypeId:=match P.underlying t with
 |some (.struct fs)=>match fs[f]? with
  |some x=>(x.offset,x.type)
  |none=>(0,0)
 |_=>(0,0)
def xpP (own:Bool) (o:Oper):XOp×List Operand:=
 match o.op with
 | .move x=>if nlP x then (.nilrow (elP P o.type) (tyP P 9 (elP P o.type)),[]) else (.mv,[x])
 | .assign x=>if nlP x then (.nilrow (elP P o.type) (tyP P 9 (elP P o.type)),[]) else (.mv,[x])
 | .pick c a b=>(.pick,[c,a,b])
 | .alloc e=>match P.underlying e with
  |some (.pointer _)=>(.allocz e 0,[])
  |some (.map _ _)=>(.allocz e 1,[])
  |some (.func _ _ _)=>(.allocz e 2,[])
  |_=>(.alloc e (tyP P 9 e),[])
 | .box e v=>(.box e,[v])
 | .build t ps=>(.build (tyP P 9 t) (ps.toList.map fun x=>((fdP P t x.1).1,tyP P 9 (fdP P t x.1).2)),ps.toList.map (·.2))
 | .buildSlice t n ps=>(.bslice (elP P t) (tyP P 9 (elP P t)) n (ps.toList.map (·.1)),ps.toList.map (·.2))
 | .load t a=>(.load (tyP P 9 t),[a])
 | .store t a v=>(.store (tyP P 9 t),[a,v])
 | .nilCheck x=>(.nilck,[x])
 | .binOp op t x y _=>match P.underlying t with
  |some (.int _)=>(.bin op,[x,y])
  |some .bool=>(.beq (op== .neq) .bool,[x,y])
  |some .string=>(.beq (op== .neq) .str,[x,y])
  |some (.slice e)=>(.isnil (op== .neq) (tyP P 9 e),[x])
  |_=>(.steq (op== .neq) (tyP P 9 t),[x,y])
 | .unOp .not _ x=>(.not,[x])
 | .unOp _ _ x=>(.neg,[x])
 | .makeMap t _=>(.mkmap (mpP P t).1 (mpP P t).2,[])
 | .lookup t x i ok=>(.mapget (mpP P t).1 (mpP P t).2 ok,[x,i])
 | .mapUpdate t m k v=>(.mapset (mpP P t).1 (mpP P t).2,[m,k,v])
 | .insert t m k v=>(.mapset (mpP P t).1 (mpP P t).2,[m,k,v])
 | .range t x=>(.mrange (mpP P t).1 (mpP P t).2,[x])
 | .entry x=>(.entry,[x])
 | .convert _ d x=>match P.underlying d with
  |some (.int k)=>(.conv k,[x])
  |_=>(.mv,[])
 | .field t x f=>(.field (fdP P t f).1 (tyP P 9 (fdP P t f).2),[x])
 | .fieldAddr t x f=>(.faddr (fdP P t f).1 (tyP P 9 (fdP P t f).2),[x])
 | .indexAddr t x i=>(.iaddr (tyP P 9 (elP P t)),[x,i])
 | .slice t x lo hi _=>(.slice (tyP P 9 (elP P t)) lo.isSome hi.isSome own,[x]++lo.toList++hi.toList)
 | .makeSlice t l c=>(.mkslice (elP P t) (tyP P 9 (elP P t)) (P.bytesOf (elP P t)),[l,c])
 | .extract t i=>(.extract i,[t])
 | .makeFunc (.func f) first cap=>if first.isEmpty then (.mkfn f,cap.toList) else (.mkbnd f,first.toList)
 | .call c=>
  let e:=elP P (c.argTypes.getD 0 0)
  match c.callee with
  | .value (.func f)=>(.call f,c.args.toList)
  | .value x=>(.callv,x::c.args.toList)
  | .builtin .len=>(.len (match P.underlying (c.argTypes.getD 0 0) with
   |some .string=>true
   |_=>false),c.args.toList)
  | .builtin .append=>(.append e (tyP P 9 e) (P.bytesOf e),c.args.toList)
  | .builtin .delete=>(.mapdel (mpP P (c.argTypes.getD 0 0)).1 (mpP P (c.argTypes.getD 0 0)).2,c.args.toList)
  | .builtin .copy=>(.copy e (tyP P 9 e),c.args.toList)
  | .builtin .clear=>(.clear e (tyP P 9 e),c.args.toList)
  | .builtin .min=>(.min,c.args.toList)
  |_=>(.max,c.args.toList)
 |_=>(.mv,[])
def insP (x:Nat) (l:List Nat):List Nat:=if l.contains x then l else l++[x]
def asP:List Oper→List (List Nat)→List (List Nat)
 |[],r=>r
 |o::os,r=>asP os (r++[o.after.toList.foldl (fun l e=>if Region.binds .any e then (r.getD e.on []).foldl (fun l z=>insP z l) (insP e.on l) else l) []])
def ownP (ops:List Oper):Bool:=ops.any fun o=>match o.op with
 | .call c=>match c.callee with
  | .builtin .copy=>true
  | .builtin .clear=>true
  |_=>false
 |_=>false
def xsP (own draw:Bool) (ops:List Oper):List Oper→List (List Nat)→List XO
 |o::os,a::al=>⟨o.dst,(xpP P own o).1,(xpP P own o).2.map xaP,o.guard.map fun g=>(g.1,(match ops[g.1]? with
  |some q=>q.dst.getD 0
  |none=>0),g.2),if draw then a else []⟩::xsP own draw ops os al
 |_,_=>[]
def szP:Code→Nat
 | .seq a b=>szP a+szP b+1
 | .cond _ a b=>szP a+szP b+1
 | .block _ b=>szP b+1
 |_=>1
def nlpP:Code→Nat
 | .seq a b=>nlpP a+nlpP b
 | .cond _ a b=>nlpP a+nlpP b
 | .block _ b=>nlpP b
 | .loop _=>1
 |_=>0
def wrP (m tp:List Nat) (i:Nat) (x:XC):XC:=let y:=if m.contains i then .clean x else x;if tp.contains i then .top y else y
def cdP (m tp:List Nat) (ls:List XC):Nat→Nat→Code→XC
 |i,k,.region _ ops d=>let l:=ops.toList;wrP m tp i (.reg d (xsP P (ownP l) d l l (asP l [])))
 |i,k,.seq a b=>wrP m tp i (.seq (cdP m tp ls (i+1) k a) (cdP m tp ls (i+szP a+1) (k+nlpP a) b))
 |i,k,.cond c a b=>wrP m tp i (.cond (xaP c) (cdP m tp ls (i+1) k a) (cdP m tp ls (i+szP a+1) (k+nlpP a) b))
 |i,k,.block id b=>wrP m tp i (.block id (cdP m tp ls (i+1) k b))
 |i,k,.loop _=>wrP m tp i (.loop (ls.getD k .skip))
 |i,_,.exit id=>wrP m tp i (.exit id)
 |i,_,.ret=>wrP m tp i .ret
 |_,_,_=>.skip
def lpP:Code→List Code
 | .seq a b=>lpP a++lpP b
 | .cond _ a b=>lpP a++lpP b
 | .block _ b=>lpP b
 | .loop b=>b::lpP b
 |_=>[]
def bdP (f:Func):Code:=f.body.getD .skip
end
structure Lx (x:XC) where
 v:XC
 h:v=x
abbrev Fx (f:Func) (m tp:List Nat) (ls:List XC):Type:=Lx (cdP Tryz.prog m tp ls 0 0 (bdP f))
abbrev Fl (f:Func) (j:Nat) (m tp:List Nat) (ls:List XC):Type:=Lx (cdP Tryz.prog m tp ls 0 0 ((lpP (bdP f)).getD j .skip))
end T
end Go.Proofs.YtpocfbfmjippnaaGreat
end
