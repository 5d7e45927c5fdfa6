/- Parts of the proof of the law; no condition. -/
import Derived.Test.YtpocfbfmjippnaaGreatH19
set_option linter.all false
section
namespace Go.Proofs.YtpocfbfmjippnaaGreat
open Go.RowKit Go.IntWalk
namespace T
theorem mget_mset' {α:Type} {z:α}:∀{H:List (Int×α)} {i j:Int} {v:α},mget z (mset H i v) j=if i=j then v else mget z H j
 |[],i,j,v=>rfl
 |p::r,i,j,v=>by
  unfold mset;by_cases c:p.1=i
  ·rw[if_pos c];unfold mget;by_cases c2:i=j
   ·rw[if_pos c2,if_pos c2]
   ·rw[if_neg c2,if_neg c2,if_neg (by rw[c];exact c2)]
  ·rw[if_neg c];unfold mget;rw[mget_mset'];by_cases c2:p.1=j
   ·rw[if_pos c2,if_pos c2,if_neg (by rw[←c2];exact fun e=>c e.symm)]
   ·rw[if_neg c2,if_neg c2]
theorem mhas_mset {α:Type}:∀{H:List (Int×α)} {i j:Int} {v:α},mhas (mset H i v) j=if i=j then true else mhas H j
 |[],i,j,v=>rfl
 |p::r,i,j,v=>by
  unfold mset;by_cases c:p.1=i
  ·rw[if_pos c];unfold mhas;by_cases c2:i=j
   ·rw[if_pos c2,if_pos c2]
   ·rw[if_neg c2,if_neg c2,if_neg (by rw[c];exact c2)]
  ·rw[if_neg c];unfold mhas;rw[mhas_mset];by_cases c2:p.1=j
   ·rw[if_pos c2,if_pos c2,if_neg (by rw[←c2];exact fun e=>c e.symm)]
   ·rw[if_neg c2,if_neg c2]
def pickM (ss:List DStop) (j:Nat) (H:List (Int×Int)):Prop:=∀r:Int,mhas H r=decide ((r,true)∈ss.take j)∧((r,true)∈ss.take j→mget 0 H r=atF (r,true) ss+1)
theorem pickM_pick {ss:List DStop} {rs:List DReq} (h:RightS ss rs) {j:Nat} (hj:j<ss.length) {H:List (Int×Int)} (hH:pickM ss j H) {r:Int} (e:ss.getD j dStop=(r,true)):pickM ss (j+1) (mset H r ((j+1:Nat):Int)):=by
 intro i;rw[mhas_mset,mget_mset',take_next hj,e];have hat:=h.at_eq hj;rw[e] at hat;by_cases c:r=i
 ·subst c;rw[if_pos rfl,if_pos rfl];refine ⟨(decide_eq_true (by simp)).symm,fun _=>?_⟩;rw[hat];omega
 ·rw[if_neg c,if_neg c];have hm:(i,true)∈ss.take j++[(r,true)]↔(i,true)∈ss.take j:=by
   simp only[List.mem_append,List.mem_singleton,Prod.mk.injEq,and_true];exact ⟨fun h=>h.resolve_right fun h=>c h.symm,.inl⟩
  refine ⟨(hH i).1.trans (decide_eq_decide.2 hm.symm),fun h=>(hH i).2 (hm.1 h)⟩
theorem pickM_drop {ss:List DStop} {j:Nat} (hj:j<ss.length) {H:List (Int×Int)} (hH:pickM ss j H) {r:Int} (e:ss.getD j dStop=(r,false)):pickM ss (j+1) H:=by
 intro i;rw[take_next hj,e];have hm:(i,true)∈ss.take j++[(r,false)]↔(i,true)∈ss.take j:=by simp
 exact ⟨(hH i).1.trans (decide_eq_decide.2 hm.symm),fun h=>(hH i).2 (hm.1 h)⟩
theorem range_map_s {α:Type} (f:Nat→α) (j:Nat):(List.range j).map f++[f j]=(List.range (j+1)).map f:=by
 rw[List.range_succ,List.map_append];rfl
theorem ridesP_no {w:DWorld} {ss:List DStop} {j:Nat} (h:dropB ss j=false):ridesP w ss j=ridesP w ss (j+1):=by
 unfold ridesP;rw[List.range_succ,List.filter_append,List.filter_cons_of_neg (by rw[h];simp),List.filter_nil,List.append_nil]
theorem ridesP_yes {w:DWorld} {ss:List DStop} {j:Nat} (h:dropB ss j=true):ridesP w ss j++[rideP w ss j]=ridesP w ss (j+1):=by
 unfold ridesP;rw[List.range_succ,List.filter_append,List.filter_cons_of_pos h,List.map_append];rfl
theorem ridesP_le (w:DWorld) (ss:List DStop) (j:Nat):(ridesP w ss j).length≤j:=by
 unfold ridesP;rw[List.length_map];exact Nat.le_trans (List.length_filter_le _ _) (by rw[List.length_range];omega)
theorem badW_all {w:DWorld} {c:Int} {ss:List DStop} {j:Nat} (h:∀k,k≤j→badW w c ss k=false) (h1:badW w c ss (j+1)=false):∀k,k≤j+1→badW w c ss k=false:=fun k hk=>by
 rcases Nat.lt_or_ge k (j+1) with c|c
 ·exact h k (by omega)
 ·rw[show k=j+1 by omega];exact h1
theorem chain_bad {w:DWorld} {c:Int} {ss:List DStop} (ha:asksF w c ss=true) {j:Nat} (hj:j≤ss.length) (h:badW w c ss j=true):chainF w c ss=(([],[],[]),20):=by
 unfold chainF;rw[if_neg (by rw[ha];simp),if_pos (List.any_eq_true.2 ⟨j,List.mem_range.2 (by omega),h⟩)];rfl
theorem rides_12 {w:DWorld} {ss:List DStop} (h:RightS ss w.2.2.2.1) (hn:ss.length≤24):(ridesP w ss ss.length).length≤12:=by
 have h1:=(rides_perm (w:=w) h).length_eq;have h2:(ridesP w ss ss.length).length+(ridesR w ss ss.length).length≤ss.length:=by
  unfold ridesP ridesR;rw[List.length_map,List.length_map];have:∀l:List Nat,(l.filter (dropB ss)).length+(l.filter fun k=>(ss.getD k dStop).2).length≤l.length:=by
   intro l;induction l with
   |nil=>exact Nat.le_refl _
   |cons k l ih=>
    rw[List.filter_cons,List.filter_cons,List.length_cons];cases hd:(ss.getD k dStop).2 with
    |true=>
     rw[if_neg (by unfold dropB;rw[hd];simp),if_pos rfl,List.length_cons];omega
    |false=>
     rw[if_neg (by simp:¬false=true)];split
     ·rw[List.length_cons];omega
     ·omega
  have:=this (List.range ss.length);rwa [List.length_range] at this
 omega
theorem ridesR_rng (w:DWorld) (ss:List DStop) (j:Nat):∀x∈ridesR w ss j,0≤x.1∧x.1≤j:=by
 intro x hx;unfold ridesR at hx;obtain ⟨k,hk,rfl⟩:=List.mem_map.1 hx;have:=List.mem_range.1 (List.mem_filter.1 hk).1;unfold rideR;dsimp only;omega
@[reducible] def dRd:DRide:=(0,0,0)
def swapR (L:List DRide) (j:Nat):List DRide:=(L.set j (L.getD (j-1) dRd)).set (j-1) (L.getD j dRd)
theorem swapR_perm {L:List DRide} {j:Nat} (hj:j<L.length):(swapR L j).Perm L:=by
 have e1:L.getD j dRd=L[j]:=by rw[List.getD_eq_getElem?_getD,List.getElem?_eq_getElem hj];rfl
 have e2:L.getD (j-1) dRd=L[j-1]:=by rw[List.getD_eq_getElem?_getD,List.getElem?_eq_getElem (by omega)];rfl
 unfold swapR;rw[e1,e2];exact List.set_set_perm hj (by omega)
theorem swapR_at {L:List DRide} {j:Nat} (h0:0<j) (hj:j<L.length) (k:Nat):(swapR L j).getD k dRd=if k=j then L.getD (j-1) dRd else if k=j-1 then L.getD j dRd else L.getD k dRd:=by
 unfold swapR;simp only[List.getD_eq_getElem?_getD,List.getElem?_set];by_cases c1:k=j
 ·subst c1;rw[if_neg (by omega),if_pos rfl,if_pos rfl,if_pos hj];rfl
 ·rw[if_neg c1];by_cases c2:k=j-1
  ·subst c2;rw[if_pos rfl,if_pos rfl,if_pos (by rw[List.length_set];omega)];rfl
  ·rw[if_neg (fun h=>c2 h.symm),if_neg (fun h=>c1 h.symm),if_neg c2]
def almost (L:List DRide) (i j:Nat):Prop:=∀a b:Nat,a<b→b≤i→b≠j→(L.getD a dRd).1≤(L.getD b dRd).1
def sortedTo (L:List DRide) (i:Nat):Prop:=∀a b:Nat,a<b→b<i→(L.getD a dRd).1≤(L.getD b dRd).1
theorem almost_start {L:List DRide} {i:Nat} (h:sortedTo L i):almost L i i:=fun a b h1 h2 h3=>h a b h1 (by omega)
theorem almost_step {L:List DRide} {i j:Nat} (h:almost L i j) (h0:0<j) (hj:j<L.length) (hji:j≤i) (hc:(L.getD j dRd).1<(L.getD (j-1) dRd).1):almost (swapR L j) i (j-1):=by
 intro a b h1 h2 h3;rw[swapR_at h0 hj,swapR_at h0 hj];by_cases c1:b=j
 ·subst c1;rw[if_pos rfl,if_neg (show¬a=b by omega)];by_cases c2:a=b-1
  ·rw[if_pos c2];omega
  ·rw[if_neg c2];exact h a (b-1) (by omega) (by omega) (by omega)
 ·rw[if_neg c1,if_neg h3];by_cases c2:a=j
  ·rw[if_pos c2];exact h (j-1) b (by omega) h2 c1
  ·rw[if_neg c2];by_cases c3:a=j-1
   ·rw[if_pos c3];exact h j b (by omega) h2 c1
   ·rw[if_neg c3];exact h a b h1 h2 c1
theorem almost_done {L:List DRide} {i j:Nat} (h:almost L i j) (hji:j≤i) (hc:j=0∨(L.getD (j-1) dRd).1≤(L.getD j dRd).1):sortedTo L (i+1):=by
 intro a b h1 h2;by_cases c:b=j
 ·subst c;rcases hc with hc|hc
  ·omega
  ·by_cases c2:a=b-1
   ·subst c2;exact hc
   ·exact Int.le_trans (h a (b-1) (by omega) (by omega) (by omega)) hc
 ·exact h a b h1 (by omega) c
theorem sortedTo_pairwise {L:List DRide} {i:Nat} (h:sortedTo L i) (hi:L.length≤i):L.Pairwise fun x y=>x.1≤y.1:=by
 rw[List.pairwise_iff_getElem];intro a b ha hb hab;have:=h a b hab (by omega);rw[List.getD_eq_getElem?_getD,List.getD_eq_getElem?_getD,List.getElem?_eq_getElem ha,List.getElem?_eq_getElem hb] at this;exact this
def entChn:Ent:=⟨78,.cons Z21 (.cons Z1 (.cons Z15 .nil)),.cons Z18 (.cons Z1 .nil),true,none,fun x=>(x.2.2.1:List DStop).length≤24,fun x=>((chainF x.1 x.2.1 x.2.2.1).1,(chainF x.1 x.2.1 x.2.2.1).2,())⟩
def csChn:List Ent:=[entAsk,entLg20,entCh1,entCh2,entBLen] theorem hcsChn (f:FuncId):findEnt csChn f=findEnt [entAsk,entLg20,entCh1,entCh2,entBLen] f:=rfl
set_option maxRecDepth 10000 in
set_option maxHeartbeats 4000000 in
theorem conChn:Con Tryz.prog entChn:=by
 refine con_is (C:=csChn) x78 (by kernel_rfl) (by simp[csChn,conAsk,conLg20,conCh1,conCh2,conBLen]) fun x hx hf=>?_;obtain ⟨⟨(N:Int),(A:List DArc),(C:List DCar),(Q:List DReq),(P:List DPair),(S1:Int),(S2:Int),(S3:Int)⟩,(c:Int),(ss:List DStop),_⟩:=x;replace hx:ss.length≤24:=hx;cases ha:asksF (N,A,C,Q,P,S1,S2,S3) c ss with
 |false=>
  have hz:chainF (N,A,C,Q,P,S1,S2,S3) c ss=(([],[],[]),1):=by unfold chainF;rw[if_pos ha];rfl
  dsimp only[entChn,x78,Z1,Z15,Z17,Z18,Z19,Z20,Z21,Z8,Z9,Za,Zb,Zc,Ze,Zh,Zi];simp only[↓hcsChn,entAsk,entLg20,entCh1,entCh2,entBLen,ha,hz,go_sem];try simp only[ha,hz,td,reduceCtorEq]
 |true=>
  obtain ⟨hw,hc,hss⟩:=asks_iff.1 ha;dsimp only at hc hss;obtain ⟨c,rfl⟩:∃z:Nat,c=z:=⟨c.toNat,by omega⟩;have hcl:c<C.length:=by omega
  have hcar:=carT (car_in ha);have hca:carAt (N,A,C,Q,P,S1,S2,S3) (c:Int)=C.getD c (0,0,0,0,0,0,0,0,0):=rfl;rw[hca] at hcar;generalize hK:C.getD c (0,0,0,0,0,0,0,0,0)=car at hcar hca;obtain ⟨k1,k2,k3,k4,k5,k6,k7,k8,k9⟩:=car;dsimp only at hcar;dsimp only[entChn,x78,Z1,Z15,Z17,Z18,Z19,Z20,Z21,Z8,Z9,Za,Zb,Zc,Ze,Zh,Zi];simp only[↓hcsChn,entAsk,entLg20,entCh1,entCh2,entBLen,ha,hcl,hK,go_sem];try simp only[ha,hcl,hK,td,reduceCtorEq]
  refine XW_nilb 23 1 89 Z8 rfl rfl ?_;refine XW_nilb 23 2 149 Z3 rfl rfl ?_;refine XW_for 1000 x78_0d [0,1,2,14] (Nat×List (Int×Int)) (fun s=>[(42,.val Z1 (s.1:Int))])
   (fun s=>[(25,.mp .i64 (.int .i64) s.2),(23,.box 102 [.own 21,.own 30,.own 32]),(21,.row 145 Z8 ((List.range (s.1+1)).map (winF (N,A,C,Q,P,S1,S2,S3) c ss))),
    (30,.row 89 Z8 []),(32,.row 149 Z3 (ridesP (N,A,C,Q,P,S1,S2,S3) ss s.1))])
   (fun s=>s.1≤ss.length∧pickM ss s.1 s.2∧∀k,k≤s.1→badW (N,A,C,Q,P,S1,S2,S3) c ss k=false) (fun s=>ss.length-s.1) (0,[]) ?_ ?_ ?_
  ·dsimp only[x78_0d];simp only[go_sem];try trivial
   refine ⟨rfl,?_,rfl⟩;show [(k3,k4)]=[((carAt (N,A,C,Q,P,S1,S2,S3) (c:Int)).2.2.1,(carAt (N,A,C,Q,P,S1,S2,S3) (c:Int)).2.2.2.1)];rw[hca]
  ·refine ⟨Nat.zero_le _,fun r=>⟨rfl,fun h=>?_⟩,fun k hk=>?_⟩
   ·simp at h
   ·have hk0:k=0:=by simpa using hk
    subst hk0;unfold badW;rw[decide_eq_false];have:=(carT (car_in ha)).2.2.2;show¬(carAt (N,A,C,Q,P,S1,S2,S3) (c:Int)).2.2.1>(carAt (N,A,C,Q,P,S1,S2,S3) (c:Int)).2.2.2.1;omega
  ·rintro ⟨j,H⟩ ⟨hj,hH,hB⟩;dsimp only at hj hH hB;by_cases hjl:j<ss.length
   ·
    have w2:IntKind.i64.wrap ((j:Int)+1)=((j+1:Nat):Int):=i64_in _ (by have:=hss.1.1;omega);have hq:=(hss.2 j hjl).1;have hwin:=winF_s (N,A,C,Q,P,S1,S2,S3) (c:Int) ss j;have hcb:=chain_bad (j:=j+1) ha (by omega);have hnx:=badW_all hB;have hpp:=fun {r:Int}=>pickM_pick (r:=r) hss hjl hH;have hpd:=fun {r:Int}=>pickM_drop (r:=r) hjl hH;have hry:=ridesP_yes (w:=(N,A,C,Q,P,S1,S2,S3)) (ss:=ss) (j:=j);have hrn:=ridesP_no (w:=(N,A,C,Q,P,S1,S2,S3)) (ss:=ss) (j:=j);have hrl:=ridesP_le (N,A,C,Q,P,S1,S2,S3) ss j;have hll:((List.range (j+1)).map (winF (N,A,C,Q,P,S1,S2,S3) (c:Int) ss)).length=j+1:=by rw[List.length_map,List.length_range]
    have hms:=range_map_s (winF (N,A,C,Q,P,S1,S2,S3) (c:Int) ss) (j+1);have hbw:badW (N,A,C,Q,P,S1,S2,S3) (c:Int) ss (j+1)=decide ((winF (N,A,C,Q,P,S1,S2,S3) (c:Int) ss (j+1)).1>(winF (N,A,C,Q,P,S1,S2,S3) (c:Int) ss (j+1)).2):=rfl;unfold rideP dropB at*;rw[hca] at hwin;dsimp only at hwin;generalize hS:ss.getD j dStop=st at*;have hS':ss.getD j (0,false)=st:=hS;obtain ⟨r,p⟩:=st;dsimp only at hq hwin hry hrn;have hH':=hH r;have e1:reqAt (N,A,C,Q,P,S1,S2,S3) r=Q.getD r.toNat dReq:=rfl;rw[e1] at hwin hry;obtain ⟨r,rfl⟩:∃z:Nat,r=z:=⟨r.toNat,by omega⟩;rw[Int.toNat_natCast] at hwin hry;have hql:r<Q.length:=by omega
    generalize hQ:Q.getD r dReq=q at*;have hQ':Q.getD r (0,0,0,0,0,0,0,0,0,0)=q:=hQ;obtain ⟨q1,q2,q3,q4,q5,q6,q7,q8⟩:=q;dsimp only at hwin hry;have goal:∀(x y:Int) (H':List (Int×Int)),winF (N,A,C,Q,P,S1,S2,S3) (c:Int) ss (j+1)=(x,y)→¬x>y→pickM ss (j+1) H'→
      ss.length-(j+1)<ss.length-j∧(j+1≤ss.length∧pickM ss (j+1) H'∧∀k,k≤j+1→badW (N,A,C,Q,P,S1,S2,S3) (c:Int) ss k=false)∧(List.range (j+1)).map (winF (N,A,C,Q,P,S1,S2,S3) (c:Int) ss)++[(x,y)]=(List.range (j+1+1)).map (winF (N,A,C,Q,P,S1,S2,S3) (c:Int) ss):=fun x y H' hw1 h1 h2=>
     ⟨by omega,⟨by omega,h2,hnx (by rw[hbw,hw1];exact decide_eq_false h1)⟩,by rw[←hms,hw1]⟩
    cases p with
    |true=>
     rw[if_pos rfl] at hwin;replace hrn:=hrn rfl;dsimp only[x78_0,x78_0d];simp only[↓hcsChn,entAsk,entLg20,entCh1,entCh2,entBLen,hK,hjl,hS',hql,hQ',w2,hll,go_sem];simp only[hjl,hK,w2,hS',hQ',hll,hql,td,reduceCtorEq];have:=hss.1.1;refine ⟨fun h=>?_,fun h=>⟨by omega,(j+1,mset H (r:Int) ((j+1:Nat):Int)),?_⟩⟩
     ·rw[hcb (by rw[hbw,hwin];exact decide_eq_true h)]
     ·obtain ⟨g1,g2,g3⟩:=goal _ _ _ hwin (Int.not_lt.2 h) (hpp rfl);exact ⟨g1,g2,rfl,rfl,g3,hrn⟩
    |false=>
     rw[if_neg (by simp)] at hwin;by_cases hm:((r:Int),true)∈ss.take j
     ·rw[if_pos hm] at hwin;have h7:=hH'.2 hm;replace hH':=hH'.1;rw[decide_eq_true hm] at hH';replace hry:=hry (by rw[decide_eq_true hm];rfl);dsimp only[x78_0,x78_0d];simp only[↓hcsChn,entAsk,entLg20,entCh1,entCh2,entBLen,hK,hjl,hS',hql,hQ',w2,hll,hH',h7,go_sem];simp only[hjl,hK,w2,hS',hQ',hll,hql,hH',h7,td,reduceCtorEq];have:=hss.1.1;refine ⟨by omega,fun h=>?_,fun h=>⟨by omega,(j+1,H),?_⟩⟩
      ·rw[hcb (by rw[hbw,hwin];exact decide_eq_true h)]
      ·obtain ⟨g1,g2,g3⟩:=goal _ _ _ hwin (Int.not_lt.2 h) (hpd rfl);exact ⟨g1,g2,rfl,rfl,g3,hry⟩
     ·rw[if_neg hm] at hwin;replace hH':=hH'.1;rw[decide_eq_false hm] at hH';replace hrn:=hrn (by rw[decide_eq_false hm];rfl);dsimp only[x78_0,x78_0d];simp only[↓hcsChn,entAsk,entLg20,entCh1,entCh2,entBLen,hK,hjl,hS',hql,hQ',w2,hll,hH',go_sem];simp only[hjl,hK,w2,hS',hQ',hll,hql,hH',td,reduceCtorEq];have:=hss.1.1;refine ⟨fun h=>?_,fun h=>⟨by omega,(j+1,H),?_⟩⟩
      ·rw[hcb (by rw[hbw,hwin];exact decide_eq_true h)]
      ·obtain ⟨g1,g2,g3⟩:=goal _ _ _ hwin (Int.not_lt.2 h) (hpd rfl);exact ⟨g1,g2,rfl,rfl,g3,hrn⟩
   ·have hj2:j=ss.length:=by omega
    subst hj2;have h12:=rides_12 (w:=(N,A,C,Q,P,S1,S2,S3)) hss hx;have hRm:∀x∈ridesP (N,A,C,Q,P,S1,S2,S3) ss ss.length,0≤x.1∧x.1≤ss.length:=fun x h=>ridesR_rng _ _ _ x ((rides_perm (w:=(N,A,C,Q,P,S1,S2,S3)) hss).mem_iff.1 h);have hRp:=rides_perm (w:=(N,A,C,Q,P,S1,S2,S3)) hss;generalize hR:ridesP (N,A,C,Q,P,S1,S2,S3) ss ss.length=R at h12 hRm hRp⊢;have w0:IntKind.i64.wrap (((R.length:Nat):Int)-0)=(R.length:Int):=(i64_in _ (by omega)).trans (by omega);have w1:IntKind.u64.wrap ((R.length:Nat):Int)=(R.length:Int):=u64_in (by omega) (by omega);have w2:(R.length:Int)≤12:=by omega
    have w3:IntKind.i64.wrap (0+1)=1:=by decide
    have w4:(R.length:Int)≤255:=by omega
    have w5:(0:Int)≤R.length:=by omega
    dsimp only[x78_0,x78_0d,x130,x182,x207,Za,Zb,Ze];simp only[↓hcsChn,entAsk,entLg20,entCh1,entCh2,entBLen,hK,w0,w1,w2,w3,w4,w5,go_sem];simp only[hjl,w0,w1,w2,w3,w4,w5,td,reduceCtorEq];refine XW_first 2000 x182_0d [] Unit (fun _=>[]) (fun _=>[]) (fun _=>False) (fun _=>0) 0 ?_ (fun _ h=>h.elim);dsimp only[x182_0,x182_0d,x207,Z3,Za,Zb,Zc,Zd,Ze,Zg];simp only[↓hcsChn,entAsk,entLg20,entCh1,entCh2,entBLen,w0,w1,w2,w3,go_sem];simp only[w0,w1,w2,w3,td,reduceCtorEq];refine XW_for 2000 x207_0d [0,1,2,14,21,23,25,30] (Nat×List DRide) (fun s=>[(8,.val Z1 (s.1:Int))]) (fun s=>[(32,.row 149 Z3 s.2)])
     (fun s=>1≤s.1∧(s.1≤R.length∨s.1=1)∧s.2.Perm R∧sortedTo s.2 s.1) (fun s=>R.length+1-s.1) (1,R) ?_ ?_ ?_
    ·dsimp only[x207_0d];simp only[go_sem];try trivial
    ·exact ⟨Nat.le_refl _,.inr rfl,.refl _,fun a b h1 h2=>by omega⟩
    ·rintro ⟨i,L⟩ ⟨hi1,hi2,hLp,hLs⟩;dsimp only at hi1 hi2 hLp hLs;have hLl:=hLp.length_eq;by_cases hil:i<R.length
     ·have w6:IntKind.i64.wrap ((i:Int)+1)=((i+1:Nat):Int):=i64_in _ (by omega);dsimp only[x207_0,x207_0d];simp only[↓hcsChn,entAsk,entLg20,entCh1,entCh2,entBLen,hil,w6,go_sem];simp only[hil,w6,td,reduceCtorEq];refine XW_for 3000 x207_1d [0,1,2,14,21,23,25,30] (Nat×List DRide) (fun s=>[(9,.val Z1 (s.1:Int))]) (fun s=>[(32,.row 149 Z3 s.2)])
       (fun s=>s.1≤i∧s.2.Perm R∧almost s.2 i s.1) (fun s=>s.1) (i,L) ?_ ?_ ?_
      ·dsimp only[x207_1d];simp only[go_sem];try trivial
      ·exact ⟨Nat.le_refl _,hLp,almost_start hLs⟩
      ·rintro ⟨j,L'⟩ ⟨hji,hLp',hLa⟩;dsimp only at hji hLp' hLa;have hLl':=hLp'.length_eq;by_cases hj0:j=0
       ·dsimp only[x207_1,x207_1d];simp only[↓hcsChn,entAsk,entLg20,entCh1,entCh2,entBLen,hil,w6,hLl',go_sem];simp only[hil,w6,hLl',td,reduceCtorEq];exact ⟨⟨fun h=>by omega,fun h=>by omega,fun h=>by omega,fun h=>by omega⟩,fun h=>by omega,fun _=>⟨(i+1,L'),by dsimp only;omega,⟨by dsimp only;omega,.inl (by dsimp only;omega),hLp',almost_done hLa hji (.inl hj0)⟩,rfl,rfl⟩⟩
       ·have w7:IntKind.i64.wrap ((j:Int)-1)=((j-1:Nat):Int):=(i64_in _ (by omega)).trans (by omega);have m1:=hRm _ (hLp'.mem_iff.1 (getD_mem2 (d:=dRd) (k:=j) (by omega)));have m2:=hRm _ (hLp'.mem_iff.1 (getD_mem2 (d:=dRd) (k:=j-1) (by omega)));have w8:IntKind.i64.wrap ((L'.getD j (0,0,0)).1-(L'.getD (j-1) (0,0,0)).1)=(L'.getD j (0,0,0)).1-(L'.getD (j-1) (0,0,0)).1:=i64_in _ (by
         change 0≤(L'.getD j (0,0,0)).1∧(L'.getD j (0,0,0)).1≤_ at m1;change 0≤(L'.getD (j-1) (0,0,0)).1∧(L'.getD (j-1) (0,0,0)).1≤_ at m2;omega)
        dsimp only[x207_1,x207_1d];simp only[↓hcsChn,entAsk,entLg20,entCh1,entCh2,entBLen,hil,w6,w7,w8,hLl',go_sem];simp only[hil,w6,w7,w8,hLl',List.length_set,td,reduceCtorEq];have hj1:j<R.length:=by omega
        have hj2:j-1<R.length:=by omega
        have hj3:((j-1:Nat):Int)<R.length:=by omega
        have hj4:(0:Int)≤((j-1:Nat):Int):=by omega
        have hj5:(0:Int)<j:=by omega
        refine ⟨by omega,fun h=>⟨by omega,(j-1,swapR L' j),by dsimp only;omega,⟨by dsimp only;omega,(swapR_perm (by omega)).trans hLp',almost_step hLa (by omega) (by omega) hji ?_⟩,rfl,rfl⟩,fun h=>⟨(i+1,L'),by dsimp only;omega,⟨by dsimp only;omega,.inl (by dsimp only;omega),hLp',almost_done hLa hji (.inr ?_)⟩,rfl,rfl⟩⟩
        ·have:=h.2;show (L'.getD j (0,0,0)).1<(L'.getD (j-1) (0,0,0)).1;omega
        ·have:=h hj5;show (L'.getD (j-1) (0,0,0)).1≤(L'.getD j (0,0,0)).1;omega
     ·dsimp only[x207_0,x207_0d];simp only[↓hcsChn,entAsk,entLg20,entCh1,entCh2,entBLen,hil,go_sem];simp only[hil,td,reduceCtorEq];obtain rfl:L=ridesR (N,A,C,Q,P,S1,S2,S3) ss ss.length:=sorted_eq (hLp.trans hRp) (sortedTo_pairwise hLs (by omega)) (ridesR_sorted _ _ _);refine XW_for 3000 x78_1d [0,1,2,14,21,23,25,32] Nat (fun k=>[(117,.val Z1 (k:Int))]) (fun k=>[(30,.row 89 Z8 ((List.range k).map fun k=>(legAt (N,A,C,Q,P,S1,S2,S3) c ss k).1))])
       (fun k=>k≤ss.length∧∀k',k'<k→(legAt (N,A,C,Q,P,S1,S2,S3) c ss k').2=true) (fun k=>ss.length-k) 0 ?_ ?_ ?_
      ·dsimp only[x78_1d];simp only[go_sem];try trivial
      ·exact ⟨Nat.zero_le _,fun k hk=>by omega⟩
      ·rintro k ⟨hk,hB'⟩;by_cases hkl:k<ss.length
       ·have w6:IntKind.i64.wrap ((k:Int)+1)=((k+1:Nat):Int):=i64_in _ (by omega);dsimp only[x78_1,x78_1d];simp only[↓hcsChn,entAsk,entLg20,entCh1,entCh2,entBLen,hkl,hss,w6,go_sem];simp only[hkl,w6,td,reduceCtorEq];have hnd:∀k:Nat,(if ((k:Nat):Int)=0 then k2 else if (ss.getD (Int.toNat (((k:Nat):Int)-1)) dStop).2=true then (reqAt (N,A,C,Q,P,S1,S2,S3) (ss.getD (Int.toNat (((k:Nat):Int)-1)) dStop).1).2.1 else (reqAt (N,A,C,Q,P,S1,S2,S3) (ss.getD (Int.toNat (((k:Nat):Int)-1)) dStop).1).2.2.1)=nodeF (N,A,C,Q,P,S1,S2,S3) c ss k:=by
         intro k;cases k with
         |zero=>
          refine (if_pos (show ((0:Nat):Int)=0 from rfl)).trans ?_;show k2=(carAt (N,A,C,Q,P,S1,S2,S3) (c:Int)).2.1;rw[hca]
         |succ k=>
          rw[if_neg (by omega),show Int.toNat (((k+1:Nat):Int)-1)=k by omega,nodeF_s]
        have hwd:((List.range (ss.length+1)).map (winF (N,A,C,Q,P,S1,S2,S3) (c:Int) ss)).getD k (0,0)=winF (N,A,C,Q,P,S1,S2,S3) (c:Int) ss k:=by
         rw[List.getD_eq_getElem?_getD,List.getElem?_map,List.getElem?_range (by omega)];rfl
        have hwl:((List.range (ss.length+1)).map (winF (N,A,C,Q,P,S1,S2,S3) (c:Int) ss)).length=ss.length+1:=by rw[List.length_map,List.length_range]
        have hll:((List.range k).map fun k=>(legAt (N,A,C,Q,P,S1,S2,S3) (c:Int) ss k).1).length=k:=by rw[List.length_map,List.length_range]
        rw[hnd k,hnd (k+1),hwd,hwl,hll];have hLg:legF (N,A,C,Q,P,S1,S2,S3) (nodeF (N,A,C,Q,P,S1,S2,S3) c ss k) (nodeF (N,A,C,Q,P,S1,S2,S3) c ss (k+1)) (winF (N,A,C,Q,P,S1,S2,S3) c ss k)=legAt (N,A,C,Q,P,S1,S2,S3) c ss k:=rfl;rw[hLg];have hwr:=win_rng ha (k:=k) (by omega);have hbk:(winF (N,A,C,Q,P,S1,S2,S3) c ss k).1≤(winF (N,A,C,Q,P,S1,S2,S3) c ss k).2:=by
         have:=hB k (by omega);unfold badW at this;have:=of_decide_eq_false this;omega
        refine ⟨⟨Int.ofNat_le.2 hk,Int.ofNat_le.2 hkl,by omega,by omega,hw,hwr,hbk⟩,fun h=>?_,fun h=>⟨by omega,k+1,by omega,⟨by omega,fun k' hk'=>?_⟩,rfl,range_map_s _ k⟩⟩
        ·have hz:chainF (N,A,C,Q,P,S1,S2,S3) c ss=(([],[],[]),4):=by
          unfold chainF;rw[if_neg (by rw[ha];simp),if_neg ?_,if_pos (List.any_eq_true.2 ⟨k,List.mem_range.2 hkl,by rw[h];rfl⟩)];· rfl
          intro h';obtain ⟨i,hi,hb⟩:=List.any_eq_true.1 h';rw[hB i (by have:=List.mem_range.1 hi;omega)] at hb;exact Bool.noConfusion hb
         rw[hz]
        ·rcases Nat.lt_or_ge k' k with q|q
         ·exact hB' k' q
         ·rw[show k'=k by omega];exact h
       ·dsimp only[x78_1,x78_1d];simp only[↓hcsChn,entAsk,entLg20,entCh1,entCh2,entBLen,hkl,go_sem];simp only[hkl,td,reduceCtorEq];obtain rfl:k=ss.length:=by omega
        have hz:chainF (N,A,C,Q,P,S1,S2,S3) c ss=((winsF (N,A,C,Q,P,S1,S2,S3) c ss,legsF (N,A,C,Q,P,S1,S2,S3) c ss,ridesR (N,A,C,Q,P,S1,S2,S3) ss ss.length),0):=by
         unfold chainF;rw[if_neg (by rw[ha];simp),if_neg ?_,if_neg ?_]
         ·intro h';obtain ⟨i,hi,hb⟩:=List.any_eq_true.1 h';rw[hB' i (List.mem_range.1 hi)] at hb;exact Bool.noConfusion hb
         ·intro h';obtain ⟨i,hi,hb⟩:=List.any_eq_true.1 h';rw[hB i (by have:=List.mem_range.1 hi;omega)] at hb;exact Bool.noConfusion hb
        rw[hz];rfl
end T
end Go.Proofs.YtpocfbfmjippnaaGreat
end
