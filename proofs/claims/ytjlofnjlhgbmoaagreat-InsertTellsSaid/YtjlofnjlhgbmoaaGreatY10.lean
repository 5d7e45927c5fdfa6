/- Parts of the proof, merged (by a program): definitions and lemmas for the law; no condition. -/
import Derived.Test.YtjlofnjlhgbmoaaGreatY9
set_option linter.unusedVariables false
set_option linter.unusedSimpArgs false
open Nat renaming reduceAdd → YA, reduceSub → YS, reduceMul → YM, reduceLT → YL, reduceLeDiff → YE, reduceEqDiff → YD, reduceBEq → YB, reduceBNe → YN
open List renaming reduceReplicate → YR
namespace Go.Proofs.YtjlofnjlhgbmoaaGreat
section
open Go.RowKit Go.IntWalk
namespace T
def entAsk:Ent:=⟨50,.cons (.st (.cons (.int .i64) (.cons (.sl (.st (.cons (.int .i64) (.cons (.int .i64) (.cons (.sl (.int .i64)) (.sl (.int .i64))))))) (.cons (.sl (.st (.cons (.int .i64) (.cons (.int .i64) (.cons (.int .i64) (.cons (.int .i64) (.cons (.int .i64) (.cons (.int .i64) (.cons (.int .i64) (.cons (.int .i64) (.int .i64))))))))))) (.cons (.sl (.st (.cons (.int .i64) (.cons (.int .i64) (.cons (.int .i64) (.cons (.int .i64) (.cons (.int .i64) (.cons (.int .i64) (.cons (.int .i64) (.cons (.int .i64) (.cons (.int .i64) (.int .i64)))))))))))) (.cons (.sl (.st (.cons (.int .i64) (.cons (.int .i64) .bool)))) (.st (.cons (.int .i64) (.cons (.int .i64) (.int .i64)))))))))) (.cons (.int .i64) (.cons (.sl (.st (.cons (.int .i64) .bool))) .nil)),.bool,false,none,fun _=>True,fun x=>asksF x.1 x.2.1 x.2.2.1⟩
def csAs:List Ent:=[entPlR,entPin,entRightS] theorem hcsAs (f:FuncId):findEnt csAs f=findEnt [entPlR,entPin,entRightS] f:=rfl
set_option maxHeartbeats 4000000 in
theorem conAsk:Con Tryz.prog entAsk:=by
 refine con_is (C:=csAs) x50 (by kernel_rfl) (by simp [csAs,conPlR,conPin,conRightS]) fun x hx hf=>?_
 obtain ⟨⟨(N:Int),(A:List DArc),(C:List DCar),(Q:List DReq),(P:List DPair),(S1:Int),(S2:Int),(S3:Int)⟩,(c:Int),(ss:List DStop),_⟩:=x
 cases hw:rightP (N,A,C,Q,P,S1,S2,S3) with
 | false =>
  have hz:asksF (N,A,C,Q,P,S1,S2,S3) c ss=false:=by unfold asksF;rw [hw];rfl
  dsimp only [entAsk,x50,Z1,Z22,Z23,Z7,Za,Zb,Zc,Ze];simp only [↓hcsAs,entPlR,entPin,entRightS,undef,hw,hz,go_sem,YA,YS,YM,YL,YE,YD,YB,YN,YR,reduceIte,reduceCtorEq,↓reduceIte]
  try simp only [hw,hz,td,reduceCtorEq]
 | true =>
  have hcl:C.length≤600:=(rightP_iff.1 hw).2.1.1
  have w:IntKind.i64.wrap ((C.length:Int) - 1)=(C.length:Int) - 1:=i64_in _ (by omega)
  have hz:asksF (N,A,C,Q,P,S1,S2,S3) c ss=(allIn ((C.length:Int) - 1) [c] && rightS ss Q):=by
   unfold asksF allIn
   rw [hw,Bool.true_and]
   congr 1
   rw [Bool.eq_iff_iff]
   simp
   try omega
  cases h1:allIn ((C.length:Int) - 1) [c] with
  | false =>
   rw [h1] at hz
   dsimp only [entAsk,x50,Z1,Z22,Z23,Z7,Za,Zb,Zc,Ze];simp only [↓hcsAs,entPlR,entPin,entRightS,undef,hw,hz,w,h1,go_sem,YA,YS,YM,YL,YE,YD,YB,YN,YR,reduceIte,reduceCtorEq,↓reduceIte]
   try simp only [hw,hz,w,h1,td,reduceCtorEq]
  | true =>
   rw [h1] at hz
   dsimp only [entAsk,x50,Z1,Z22,Z23,Z7,Za,Zb,Zc,Ze];simp only [↓hcsAs,entPlR,entPin,entRightS,undef,hw,hz,w,h1,go_sem,YA,YS,YM,YL,YE,YD,YB,YN,YR,reduceIte,reduceCtorEq,↓reduceIte]
   try simp only [hw,hz,w,h1,td,reduceCtorEq]
def entCh1:Ent:=⟨52,.cons (.st (.cons (.int .i64) (.cons (.int .i64) (.int .i64)))) (.cons (.st (.cons (.int .i64) (.cons (.int .i64) (.int .i64)))) .nil),(.int .i64),false,none,fun _=>True,fun x=>IntKind.i64.wrap ((x.1:DRide).1 - (x.2.1:DRide).1)⟩
def csCh1:List Ent:=[] theorem hcsCh1 (f:FuncId):findEnt csCh1 f=findEnt [] f:=rfl
theorem conCh1:Con Tryz.prog entCh1:=by
 refine con_is (C:=csCh1) x52 (by kernel_rfl) (by simp [csCh1]) fun x hx hf=>?_
 obtain ⟨⟨(a:Int),(b:Int),(d:Int)⟩,⟨(a':Int),(b':Int),(d':Int)⟩,_⟩:=x
 dsimp only [entCh1,x52,Z1,Zb];simp only [↓hcsCh1,go_sem,YA,YS,YM,YL,YE,YD,YB,YN,YR,reduceIte,reduceCtorEq,↓reduceIte];try simp only [td,reduceCtorEq]
def entCh2:Ent:=⟨53,.cons (.int .i64) (.cons (.ptr (.st (.cons (.int .i64) (.cons (.int .i64) (.cons (.int .i64) (.cons (.int .i64) (.cons (.int .i64) (.cons (.int .i64) (.cons (.int .i64) (.cons (.int .i64) (.int .i64))))))))))) (.cons (.ptr (.st (.cons (.int .i64) (.cons (.sl (.st (.cons (.int .i64) (.cons (.int .i64) (.cons (.sl (.int .i64)) (.sl (.int .i64))))))) (.cons (.sl (.st (.cons (.int .i64) (.cons (.int .i64) (.cons (.int .i64) (.cons (.int .i64) (.cons (.int .i64) (.cons (.int .i64) (.cons (.int .i64) (.cons (.int .i64) (.int .i64))))))))))) (.cons (.sl (.st (.cons (.int .i64) (.cons (.int .i64) (.cons (.int .i64) (.cons (.int .i64) (.cons (.int .i64) (.cons (.int .i64) (.cons (.int .i64) (.cons (.int .i64) (.cons (.int .i64) (.int .i64)))))))))))) (.cons (.sl (.st (.cons (.int .i64) (.cons (.int .i64) .bool)))) (.st (.cons (.int .i64) (.cons (.int .i64) (.int .i64))))))))))) (.cons (.ptr (.sl (.st (.cons (.int .i64) .bool)))) .nil))),(.int .i64),false,none,fun x=>(0≤(x.1:Int)∧(x.1:Int)≤(x.2.2.2.1:List DStop).length)∧RightS x.2.2.2.1 (x.2.2.1:DWorld).2.2.2.1,fun x=>if (x.1:Int)=0 then (x.2.1:DCar).2.1 else if ((x.2.2.2.1:List DStop).getD ((x.1:Int) - 1).toNat dStop).2=true then (reqAt x.2.2.1 ((x.2.2.2.1:List DStop).getD ((x.1:Int) - 1).toNat dStop).1).2.1 else (reqAt x.2.2.1 ((x.2.2.2.1:List DStop).getD ((x.1:Int) - 1).toNat dStop).1).2.2.1⟩
def csCh2:List Ent:=[] theorem hcsCh2 (f:FuncId):findEnt csCh2 f=findEnt [] f:=rfl
theorem conCh2:Con Tryz.prog entCh2:=by
 refine con_is (C:=csCh2) x53 (by kernel_rfl) (by simp [csCh2]) fun x hx hf=>?_
 obtain ⟨(k:Int),⟨(o:Int),(n:Int),(r:Int),(e:Int),(s:Int),(c:Int),(b:Int),(g:Int),(f:Int)⟩,⟨(N:Int),(A:List DArc),(C:List DCar),(Q:List DReq),(P:List DPair),(S1:Int),(S2:Int),(S3:Int)⟩,(ss:List DStop),_⟩:=x
 obtain ⟨⟨h1,h2⟩,h3⟩:=hx
 replace h1:0≤k:=h1
 replace h2:k≤(ss.length:Int):=h2
 replace h3:RightS ss Q:=h3
 by_cases hk:k=0
 ·subst hk
  dsimp only [entCh2,x53,Z1,Z19,Z6,Z7,Z8,Za,Zb,Zc,Zd,Zf,Zg];simp only [↓hcsCh2,go_sem,YA,YS,YM,YL,YE,YD,YB,YN,YR,reduceIte,reduceCtorEq,↓reduceIte];try simp only [td,reduceCtorEq]
 obtain ⟨k,rfl⟩:∃ z:Nat,k=((z+1:Nat):Int):=⟨k.toNat - 1,by omega⟩
 have hkl:k < ss.length:=by omega
 have w:IntKind.i64.wrap (((k+1:Nat):Int) - 1)=(k:Int):=(i64_in _ (by have:=h3.1.1;omega)).trans (by omega)
 have w':(((k+1:Nat):Int) - 1).toNat=k:=by omega
 have hq:=(h3.2 k hkl).1
 generalize hS:ss.getD k dStop=st at hq
 have hS':ss.getD k (0,false)=st:=hS
 obtain ⟨r',p⟩:=st
 dsimp only at hq
 obtain ⟨r',rfl⟩:∃ z:Nat,r' = z:=⟨r'.toNat,by omega⟩
 have hql:r' < Q.length:=by omega
 dsimp only [entCh2,x53,Z1,Z19,Z6,Z7,Z8,Za,Zb,Zc,Zd,Zf,Zg];simp only [↓hcsCh2,hk,w,w',hkl,hS',hql,Int.toNat_natCast,go_sem,YA,YS,YM,YL,YE,YD,YB,YN,YR,reduceIte,reduceCtorEq,↓reduceIte]
 try simp only [hk,w,w',hkl,hS',hql,Int.toNat_natCast,td,reduceCtorEq]
 exact ⟨fun h=>by rw [if_pos h];rfl,fun h=>by rw [if_neg (by rw [h];simp)];rfl⟩
end T
end
section
open Go.RowKit Go.IntWalk
namespace T
theorem mget_mset' {α:Type} {z:α}:∀ {H:List (Int × α)} {i j:Int} {v:α},mget z (mset H i v) j=if i=j then v else mget z H j
 | [],i,j,v=>rfl
 | p :: r,i,j,v=>by
  unfold mset
  by_cases c:p.1=i
  ·rw [if_pos c]
   unfold mget
   by_cases c2:i=j
   ·rw [if_pos c2,if_pos c2]
   ·rw [if_neg c2,if_neg c2,if_neg (by rw [c];exact c2)]
  ·rw [if_neg c]
   unfold mget
   rw [mget_mset']
   by_cases c2:p.1=j
   ·rw [if_pos c2,if_pos c2,if_neg (by rw [← c2];exact fun e=>c e.symm)]
   ·rw [if_neg c2,if_neg c2]
theorem mhas_mset {α:Type}:∀ {H:List (Int × α)} {i j:Int} {v:α},mhas (mset H i v) j=if i=j then true else mhas H j
 | [],i,j,v=>rfl
 | p :: r,i,j,v=>by
  unfold mset
  by_cases c:p.1=i
  ·rw [if_pos c]
   unfold mhas
   by_cases c2:i=j
   ·rw [if_pos c2,if_pos c2]
   ·rw [if_neg c2,if_neg c2,if_neg (by rw [c];exact c2)]
  ·rw [if_neg c]
   unfold mhas
   rw [mhas_mset]
   by_cases c2:p.1=j
   ·rw [if_pos c2,if_pos c2,if_neg (by rw [← c2];exact fun e=>c e.symm)]
   ·rw [if_neg c2,if_neg c2]
def pickM (ss:List DStop) (j:Nat) (H:List (Int × Int)):Prop:=∀ r:Int,mhas H r=decide ((r,true) ∈ ss.take j)∧((r,true) ∈ ss.take j→mget 0 H r=atF (r,true) ss+1)
theorem pickM_pick {ss:List DStop} {rs:List DReq} (h:RightS ss rs) {j:Nat} (hj:j < ss.length) {H:List (Int × Int)} (hH:pickM ss j H) {r:Int} (e:ss.getD j dStop=(r,true)):pickM ss (j+1) (mset H r ((j+1:Nat):Int)):=by
 intro i
 rw [mhas_mset,mget_mset',take_next hj,e]
 have hat:=h.at_eq hj
 rw [e] at hat
 by_cases c:r=i
 ·subst c
  rw [if_pos rfl,if_pos rfl]
  refine ⟨(decide_eq_true (by simp)).symm,fun _=>?_⟩
  rw [hat];omega
 ·rw [if_neg c,if_neg c]
  have hm:(i,true) ∈ ss.take j ++ [(r,true)] ↔ (i,true) ∈ ss.take j:=by
   simp only [List.mem_append,List.mem_singleton,Prod.mk.injEq,and_true]
   exact ⟨fun h=>h.resolve_right fun h=>c h.symm,.inl⟩
  refine ⟨(hH i).1.trans (decide_eq_decide.2 hm.symm),fun h=>(hH i).2 (hm.1 h)⟩
theorem pickM_drop {ss:List DStop} {j:Nat} (hj:j < ss.length) {H:List (Int × Int)} (hH:pickM ss j H) {r:Int} (e:ss.getD j dStop=(r,false)):pickM ss (j+1) H:=by
 intro i
 rw [take_next hj,e]
 have hm:(i,true) ∈ ss.take j ++ [(r,false)] ↔ (i,true) ∈ ss.take j:=by simp
 exact ⟨(hH i).1.trans (decide_eq_decide.2 hm.symm),fun h=>(hH i).2 (hm.1 h)⟩
theorem range_map_s {α:Type} (f:Nat→α) (j:Nat):(List.range j).map f ++ [f j]=(List.range (j+1)).map f:=by
 rw [List.range_succ,List.map_append];rfl
theorem ridesP_no {w:DWorld} {ss:List DStop} {j:Nat} (h:dropB ss j=false):ridesP w ss j=ridesP w ss (j+1):=by
 unfold ridesP
 rw [List.range_succ,List.filter_append,List.filter_cons_of_neg (by rw [h];simp),List.filter_nil,List.append_nil]
theorem ridesP_yes {w:DWorld} {ss:List DStop} {j:Nat} (h:dropB ss j=true):ridesP w ss j ++ [rideP w ss j]=ridesP w ss (j+1):=by
 unfold ridesP
 rw [List.range_succ,List.filter_append,List.filter_cons_of_pos h,List.map_append];rfl
theorem ridesP_le (w:DWorld) (ss:List DStop) (j:Nat):(ridesP w ss j).length≤j:=by
 unfold ridesP
 rw [List.length_map]
 exact Nat.le_trans (List.length_filter_le _ _) (by rw [List.length_range];omega)
theorem badW_all {w:DWorld} {c:Int} {ss:List DStop} {j:Nat} (h:∀ k,k≤j→badW w c ss k=false) (h1:badW w c ss (j+1)=false):∀ k,k≤j+1→badW w c ss k=false:=fun k hk=>by
 rcases Nat.lt_or_ge k (j+1) with c | c
 ·exact h k (by omega)
 ·rw [show k=j+1 by omega];exact h1
theorem chain_bad {w:DWorld} {c:Int} {ss:List DStop} (ha:asksF w c ss=true) {j:Nat} (hj:j≤ss.length) (h:badW w c ss j=true):chainF w c ss=(([],[],[]),20):=by
 unfold chainF
 rw [if_neg (by rw [ha];simp),if_pos (List.any_eq_true.2 ⟨j,List.mem_range.2 (by omega),h⟩)];rfl
theorem rides_12 {w:DWorld} {ss:List DStop} (h:RightS ss w.2.2.2.1) (hn:ss.length≤24):(ridesP w ss ss.length).length≤12:=by
 have h1:=(rides_perm (w:=w) h).length_eq
 have h2:(ridesP w ss ss.length).length+(ridesR w ss ss.length).length≤ss.length:=by
  unfold ridesP ridesR
  rw [List.length_map,List.length_map]
  have:∀ l:List Nat,(l.filter (dropB ss)).length+(l.filter fun k=>(ss.getD k dStop).2).length≤l.length:=by
   intro l
   induction l with
   | nil=>exact Nat.le_refl _
   | cons k l ih =>
    rw [List.filter_cons,List.filter_cons,List.length_cons]
    cases hd:(ss.getD k dStop).2 with
    | true =>
     rw [if_neg (by unfold dropB;rw [hd];simp),if_pos rfl,List.length_cons];omega
    | false =>
     rw [if_neg (by simp:¬ false=true)]
     split
     ·rw [List.length_cons];omega
     ·omega
  have:=this (List.range ss.length)
  rwa [List.length_range] at this
 omega
theorem ridesR_rng (w:DWorld) (ss:List DStop) (j:Nat):∀ x ∈ ridesR w ss j,0≤x.1∧x.1≤j:=by
 intro x hx
 unfold ridesR at hx
 obtain ⟨k,hk,rfl⟩:=List.mem_map.1 hx
 have:=List.mem_range.1 (List.mem_filter.1 hk).1
 unfold rideR
 dsimp only
 omega
@[reducible] def dRd:DRide:=(0,0,0)
def swapR (L:List DRide) (j:Nat):List DRide:=(L.set j (L.getD (j - 1) dRd)).set (j - 1) (L.getD j dRd)
theorem swapR_perm {L:List DRide} {j:Nat} (hj:j < L.length):(swapR L j).Perm L:=by
 have e1:L.getD j dRd=L[j]:=by rw [List.getD_eq_getElem?_getD,List.getElem?_eq_getElem hj];rfl
 have e2:L.getD (j - 1) dRd=L[j - 1]:=by rw [List.getD_eq_getElem?_getD,List.getElem?_eq_getElem (by omega)];rfl
 unfold swapR
 rw [e1,e2]
 exact List.set_set_perm hj (by omega)
theorem swapR_at {L:List DRide} {j:Nat} (h0:0 < j) (hj:j < L.length) (k:Nat):(swapR L j).getD k dRd=if k=j then L.getD (j - 1) dRd else if k=j - 1 then L.getD j dRd else L.getD k dRd:=by
 unfold swapR
 simp only [List.getD_eq_getElem?_getD,List.getElem?_set]
 by_cases c1:k=j
 ·subst c1
  rw [if_neg (by omega),if_pos rfl,if_pos rfl,if_pos hj];rfl
 ·rw [if_neg c1]
  by_cases c2:k=j - 1
  ·subst c2
   rw [if_pos rfl,if_pos rfl,if_pos (by rw [List.length_set];omega)];rfl
  ·rw [if_neg (fun h=>c2 h.symm),if_neg (fun h=>c1 h.symm),if_neg c2]
def almost (L:List DRide) (i j:Nat):Prop:=∀ a b:Nat,a < b→b≤i→b≠j→(L.getD a dRd).1≤(L.getD b dRd).1
def sortedTo (L:List DRide) (i:Nat):Prop:=∀ a b:Nat,a < b→b < i→(L.getD a dRd).1≤(L.getD b dRd).1
theorem almost_start {L:List DRide} {i:Nat} (h:sortedTo L i):almost L i i:=fun a b h1 h2 h3=>h a b h1 (by omega)
theorem almost_step {L:List DRide} {i j:Nat} (h:almost L i j) (h0:0 < j) (hj:j < L.length) (hji:j≤i) (hc:(L.getD j dRd).1 < (L.getD (j - 1) dRd).1):almost (swapR L j) i (j - 1):=by
 intro a b h1 h2 h3
 rw [swapR_at h0 hj,swapR_at h0 hj]
 by_cases c1:b=j
 ·subst c1
  rw [if_pos rfl,if_neg (show ¬ a=b by omega)]
  by_cases c2:a=b - 1
  ·rw [if_pos c2];omega
  ·rw [if_neg c2];exact h a (b - 1) (by omega) (by omega) (by omega)
 ·rw [if_neg c1,if_neg h3]
  by_cases c2:a=j
  ·rw [if_pos c2];exact h (j - 1) b (by omega) h2 c1
  ·rw [if_neg c2]
   by_cases c3:a=j - 1
   ·rw [if_pos c3]
    exact h j b (by omega) h2 c1
   ·rw [if_neg c3];exact h a b h1 h2 c1
theorem almost_done {L:List DRide} {i j:Nat} (h:almost L i j) (hji:j≤i) (hc:j=0∨(L.getD (j - 1) dRd).1≤(L.getD j dRd).1):sortedTo L (i+1):=by
 intro a b h1 h2
 by_cases c:b=j
 ·subst c
  rcases hc with hc | hc
  ·omega
  ·by_cases c2:a=b - 1
   ·subst c2;exact hc
   ·exact Int.le_trans (h a (b - 1) (by omega) (by omega) (by omega)) hc
 ·exact h a b h1 (by omega) c
theorem sortedTo_pairwise {L:List DRide} {i:Nat} (h:sortedTo L i) (hi:L.length≤i):L.Pairwise fun x y=>x.1≤y.1:=by
 rw [List.pairwise_iff_getElem]
 intro a b ha hb hab
 have:=h a b hab (by omega)
 rw [List.getD_eq_getElem?_getD,List.getD_eq_getElem?_getD,List.getElem?_eq_getElem ha,List.getElem?_eq_getElem hb] at this
 exact this
def entChn:Ent:=⟨25,.cons (.st (.cons (.int .i64) (.cons (.sl (.st (.cons (.int .i64) (.cons (.int .i64) (.cons (.sl (.int .i64)) (.sl (.int .i64))))))) (.cons (.sl (.st (.cons (.int .i64) (.cons (.int .i64) (.cons (.int .i64) (.cons (.int .i64) (.cons (.int .i64) (.cons (.int .i64) (.cons (.int .i64) (.cons (.int .i64) (.int .i64))))))))))) (.cons (.sl (.st (.cons (.int .i64) (.cons (.int .i64) (.cons (.int .i64) (.cons (.int .i64) (.cons (.int .i64) (.cons (.int .i64) (.cons (.int .i64) (.cons (.int .i64) (.cons (.int .i64) (.int .i64)))))))))))) (.cons (.sl (.st (.cons (.int .i64) (.cons (.int .i64) .bool)))) (.st (.cons (.int .i64) (.cons (.int .i64) (.int .i64)))))))))) (.cons (.int .i64) (.cons (.sl (.st (.cons (.int .i64) .bool))) .nil)),.cons (.st (.cons (.sl (.st (.cons (.int .i64) (.int .i64)))) (.cons (.sl (.st (.cons (.int .i64) (.int .i64)))) (.sl (.st (.cons (.int .i64) (.cons (.int .i64) (.int .i64)))))))) (.cons (.int .i64) .nil),true,none,fun x=>(x.2.2.1:List DStop).length≤24,fun x=>((chainF x.1 x.2.1 x.2.2.1).1,(chainF x.1 x.2.1 x.2.2.1).2,())⟩
def csChn:List Ent:=[entAsk,entLg20,entCh1,entCh2,entBLen] theorem hcsChn (f:FuncId):findEnt csChn f=findEnt [entAsk,entLg20,entCh1,entCh2,entBLen] f:=rfl
set_option maxRecDepth 10000 in
set_option maxHeartbeats 4000000 in
theorem conChn:Con Tryz.prog entChn:=by
 refine con_is (C:=csChn) x25 (by kernel_rfl) (by simp [csChn,conAsk,conLg20,conCh1,conCh2,conBLen]) fun x hx hf=>?_
 obtain ⟨⟨(N:Int),(A:List DArc),(C:List DCar),(Q:List DReq),(P:List DPair),(S1:Int),(S2:Int),(S3:Int)⟩,(c:Int),(ss:List DStop),_⟩:=x
 replace hx:ss.length≤24:=hx
 cases ha:asksF (N,A,C,Q,P,S1,S2,S3) c ss with
 | false =>
  have hz:chainF (N,A,C,Q,P,S1,S2,S3) c ss=(([],[],[]),1):=by unfold chainF;rw [if_pos ha];rfl
  dsimp only [entChn,x25,Z1,Z10,Z12,Z18,Z19,Z2,Z22,Z23,Z3,Za,Zb,Zc,Zd,Zg,Zi];simp only [↓hcsChn,entAsk,entLg20,entCh1,entCh2,entBLen,ha,hz,go_sem,YA,YS,YM,YL,YE,YD,YB,YN,YR,reduceIte,reduceCtorEq,↓reduceIte]
  try simp only [ha,hz,td,reduceCtorEq]
 | true =>
  obtain ⟨hw,hc,hss⟩:=asks_iff.1 ha
  dsimp only at hc hss
  obtain ⟨c,rfl⟩:∃ z:Nat,c=z:=⟨c.toNat,by omega⟩
  have hcl:c < C.length:=by omega
  have hcar:=carT (car_in ha)
  have hca:carAt (N,A,C,Q,P,S1,S2,S3) (c:Int)=C.getD c (0,0,0,0,0,0,0,0,0):=rfl
  rw [hca] at hcar
  generalize hK:C.getD c (0,0,0,0,0,0,0,0,0)=car at hcar hca
  obtain ⟨k1,k2,k3,k4,k5,k6,k7,k8,k9⟩:=car
  dsimp only at hcar
  dsimp only [entChn,x25,Z1,Z10,Z12,Z18,Z19,Z2,Z22,Z23,Z3,Za,Zb,Zc,Zd,Zg,Zi];simp only [↓hcsChn,entAsk,entLg20,entCh1,entCh2,entBLen,ha,hcl,hK,Int.toNat_natCast,go_sem,YA,YS,YM,YL,YE,YD,YB,YN,YR,reduceIte,reduceCtorEq,↓reduceIte]
  try simp only [ha,hcl,hK,Int.toNat_natCast,td,reduceCtorEq]
  refine XW_nilb 23 1 95 (.st (.cons (.int .i64) (.int .i64))) rfl rfl ?_
  refine XW_nilb 23 2 109 (.st (.cons (.int .i64) (.cons (.int .i64) (.int .i64)))) rfl rfl ?_
  refine XW_for 1000 x25_0d [0,1,2,14] (Nat × List (Int × Int)) (fun s=>[(42,.val (.int .i64) (s.1:Int))])
   (fun s=>[(25,.mp .i64 (.int .i64) s.2),(23,.box 66 [.own 21,.own 30,.own 32]),(21,.row 70 (.st (.cons (.int .i64) (.int .i64))) ((List.range (s.1+1)).map (winF (N,A,C,Q,P,S1,S2,S3) c ss))),
    (30,.row 95 (.st (.cons (.int .i64) (.int .i64))) []),(32,.row 109 (.st (.cons (.int .i64) (.cons (.int .i64) (.int .i64)))) (ridesP (N,A,C,Q,P,S1,S2,S3) ss s.1))])
   (fun s=>s.1≤ss.length∧pickM ss s.1 s.2∧∀ k,k≤s.1→badW (N,A,C,Q,P,S1,S2,S3) c ss k=false) (fun s=>ss.length - s.1) (0,[]) ?_ ?_ ?_
  ·dsimp only [x25_0d];simp only [go_sem,YA,YS,YM,YL,YE,YD,YB,YN,YR,reduceIte,reduceCtorEq,↓reduceIte];try trivial
   refine ⟨rfl,?_,rfl⟩
   show [(k3,k4)]=[((carAt (N,A,C,Q,P,S1,S2,S3) (c:Int)).2.2.1,(carAt (N,A,C,Q,P,S1,S2,S3) (c:Int)).2.2.2.1)]
   rw [hca]
  ·refine ⟨Nat.zero_le _,fun r=>⟨rfl,fun h=>?_⟩,fun k hk=>?_⟩
   ·simp at h
   ·have hk0:k=0:=by simpa using hk
    subst hk0
    unfold badW
    rw [decide_eq_false]
    have:=(carT (car_in ha)).2.2.2
    show ¬ (carAt (N,A,C,Q,P,S1,S2,S3) (c:Int)).2.2.1 > (carAt (N,A,C,Q,P,S1,S2,S3) (c:Int)).2.2.2.1
    omega
  ·rintro ⟨j,H⟩ ⟨hj,hH,hB⟩
   dsimp only at hj hH hB
   by_cases hjl:j < ss.length
   ·
    have w2:IntKind.i64.wrap ((j:Int)+1)=((j+1:Nat):Int):=i64_in _ (by have:=hss.1.1;omega)
    have hq:=(hss.2 j hjl).1
    have hwin:=winF_s (N,A,C,Q,P,S1,S2,S3) (c:Int) ss j
    have hcb:=chain_bad (j:=j+1) ha (by omega)
    have hnx:=badW_all hB
    have hpp:=fun {r:Int}=>pickM_pick (r:=r) hss hjl hH
    have hpd:=fun {r:Int}=>pickM_drop (r:=r) hjl hH
    have hry:=ridesP_yes (w:=(N,A,C,Q,P,S1,S2,S3)) (ss:=ss) (j:=j)
    have hrn:=ridesP_no (w:=(N,A,C,Q,P,S1,S2,S3)) (ss:=ss) (j:=j)
    have hrl:=ridesP_le (N,A,C,Q,P,S1,S2,S3) ss j
    have hll:((List.range (j+1)).map (winF (N,A,C,Q,P,S1,S2,S3) (c:Int) ss)).length=j+1:=by rw [List.length_map,List.length_range]
    have hms:=range_map_s (winF (N,A,C,Q,P,S1,S2,S3) (c:Int) ss) (j+1)
    have hbw:badW (N,A,C,Q,P,S1,S2,S3) (c:Int) ss (j+1)=decide ((winF (N,A,C,Q,P,S1,S2,S3) (c:Int) ss (j+1)).1 > (winF (N,A,C,Q,P,S1,S2,S3) (c:Int) ss (j+1)).2):=rfl
    unfold rideP dropB at *
    rw [hca] at hwin
    dsimp only at hwin
    generalize hS:ss.getD j dStop=st at *
    have hS':ss.getD j (0,false)=st:=hS
    obtain ⟨r,p⟩:=st
    dsimp only at hq hwin hry hrn
    have hH':=hH r
    have e1:reqAt (N,A,C,Q,P,S1,S2,S3) r=Q.getD r.toNat dReq:=rfl
    rw [e1] at hwin hry
    obtain ⟨r,rfl⟩:∃ z:Nat,r=z:=⟨r.toNat,by omega⟩
    rw [Int.toNat_natCast] at hwin hry
    have hql:r < Q.length:=by omega
    generalize hQ:Q.getD r dReq=q at *
    have hQ':Q.getD r (0,0,0,0,0,0,0,0,0,0)=q:=hQ
    obtain ⟨q1,q2,q3,q4,q5,q6,q7,q8⟩:=q
    dsimp only at hwin hry
    have goal:∀ (x y:Int) (H':List (Int × Int)),winF (N,A,C,Q,P,S1,S2,S3) (c:Int) ss (j+1)=(x,y)→¬ x > y→pickM ss (j+1) H' →
      ss.length - (j+1) < ss.length - j∧(j+1≤ss.length∧pickM ss (j+1) H'∧∀ k,k≤j+1→badW (N,A,C,Q,P,S1,S2,S3) (c:Int) ss k=false)∧(List.range (j+1)).map (winF (N,A,C,Q,P,S1,S2,S3) (c:Int) ss) ++ [(x,y)]=(List.range (j+1+1)).map (winF (N,A,C,Q,P,S1,S2,S3) (c:Int) ss):=fun x y H' hw1 h1 h2 =>
     ⟨by omega,⟨by omega,h2,hnx (by rw [hbw,hw1];exact decide_eq_false h1)⟩,by rw [← hms,hw1]⟩
    cases p with
    | true =>
     rw [if_pos rfl] at hwin
     replace hrn:=hrn rfl
     dsimp only [x25_0,x25_0d,Z1,Z10,Z12,Z2,Z3,Z5,Z6,Z7,Z8,Za,Zb,Zc,Zd,Zg,Zi];simp only [↓hcsChn,entAsk,entLg20,entCh1,entCh2,entBLen,hK,hjl,hS',hql,hQ',w2,hll,Int.toNat_natCast,go_sem,YA,YS,YM,YL,YE,YD,YB,YN,YR,reduceIte,reduceCtorEq,↓reduceIte]
     simp only [hjl,hK,w2,hS',hQ',hll,hql,Int.toNat_natCast,td,reduceCtorEq]
     have:=hss.1.1
     refine ⟨fun h=>?_,fun h=>⟨by omega,(j+1,mset H (r:Int) ((j+1:Nat):Int)),?_⟩⟩
     ·rw [hcb (by rw [hbw,hwin];exact decide_eq_true h)]
     ·obtain ⟨g1,g2,g3⟩:=goal _ _ _ hwin (Int.not_lt.2 h) (hpp rfl)
      exact ⟨g1,g2,rfl,rfl,g3,hrn⟩
    | false =>
     rw [if_neg (by simp)] at hwin
     by_cases hm:((r:Int),true) ∈ ss.take j
     ·rw [if_pos hm] at hwin
      have h7:=hH'.2 hm
      replace hH':=hH'.1
      rw [decide_eq_true hm] at hH'
      replace hry:=hry (by rw [decide_eq_true hm];rfl)
      dsimp only [x25_0,x25_0d,Z1,Z10,Z12,Z2,Z3,Z5,Z6,Z7,Z8,Za,Zb,Zc,Zd,Zg,Zi];simp only [↓hcsChn,entAsk,entLg20,entCh1,entCh2,entBLen,hK,hjl,hS',hql,hQ',w2,hll,hH',h7,Int.toNat_natCast,go_sem,YA,YS,YM,YL,YE,YD,YB,YN,YR,reduceIte,reduceCtorEq,↓reduceIte]
      simp only [hjl,hK,w2,hS',hQ',hll,hql,hH',h7,Int.toNat_natCast,td,reduceCtorEq]
      have:=hss.1.1
      refine ⟨by omega,fun h=>?_,fun h=>⟨by omega,(j+1,H),?_⟩⟩
      ·rw [hcb (by rw [hbw,hwin];exact decide_eq_true h)]
      ·obtain ⟨g1,g2,g3⟩:=goal _ _ _ hwin (Int.not_lt.2 h) (hpd rfl)
       exact ⟨g1,g2,rfl,rfl,g3,hry⟩
     ·rw [if_neg hm] at hwin
      replace hH':=hH'.1
      rw [decide_eq_false hm] at hH'
      replace hrn:=hrn (by rw [decide_eq_false hm];rfl)
      dsimp only [x25_0,x25_0d,Z1,Z10,Z12,Z2,Z3,Z5,Z6,Z7,Z8,Za,Zb,Zc,Zd,Zg,Zi];simp only [↓hcsChn,entAsk,entLg20,entCh1,entCh2,entBLen,hK,hjl,hS',hql,hQ',w2,hll,hH',Int.toNat_natCast,go_sem,YA,YS,YM,YL,YE,YD,YB,YN,YR,reduceIte,reduceCtorEq,↓reduceIte]
      simp only [hjl,hK,w2,hS',hQ',hll,hql,hH',Int.toNat_natCast,td,reduceCtorEq]
      have:=hss.1.1
      refine ⟨fun h=>?_,fun h=>⟨by omega,(j+1,H),?_⟩⟩
      ·rw [hcb (by rw [hbw,hwin];exact decide_eq_true h)]
      ·obtain ⟨g1,g2,g3⟩:=goal _ _ _ hwin (Int.not_lt.2 h) (hpd rfl)
       exact ⟨g1,g2,rfl,rfl,g3,hrn⟩
   ·have hj2:j=ss.length:=by omega
    subst hj2
    have h12:=rides_12 (w:=(N,A,C,Q,P,S1,S2,S3)) hss hx
    have hRm:∀ x ∈ ridesP (N,A,C,Q,P,S1,S2,S3) ss ss.length,0≤x.1∧x.1≤ss.length:=fun x h=>ridesR_rng _ _ _ x ((rides_perm (w:=(N,A,C,Q,P,S1,S2,S3)) hss).mem_iff.1 h)
    have hRp:=rides_perm (w:=(N,A,C,Q,P,S1,S2,S3)) hss
    generalize hR:ridesP (N,A,C,Q,P,S1,S2,S3) ss ss.length=R at h12 hRm hRp ⊢
    have w0:IntKind.i64.wrap (((R.length:Nat):Int) - 0)=(R.length:Int):=(i64_in _ (by omega)).trans (by omega)
    have w1:IntKind.u64.wrap ((R.length:Nat):Int)=(R.length:Int):=u64_in (by omega) (by omega)
    have w2:(R.length:Int)≤12:=by omega
    have w3:IntKind.i64.wrap (0+1)=1:=by decide
    have w4:(R.length:Int)≤255:=by omega
    have w5:(0:Int)≤R.length:=by omega
    dsimp only [x25_0,x25_0d,x51,x107,x161,Z1,Z10,Z12,Z2,Z3,Z5,Z6,Z7,Z8,Za,Zb,Zc,Zd,Zg,Zi];simp only [↓hcsChn,entAsk,entLg20,entCh1,entCh2,entBLen,hK,w0,w1,w2,w3,w4,w5,go_sem,YA,YS,YM,YL,YE,YD,YB,YN,YR,reduceIte,reduceCtorEq,↓reduceIte]
    simp only [hjl,w0,w1,w2,w3,w4,w5,td,reduceCtorEq]
    refine XW_first 2000 x107_0d [] Unit (fun _=>[]) (fun _=>[]) (fun _=>False) (fun _=>0) 0 ?_ (fun _ h=>h.elim)
    dsimp only [x107_0,x107_0d,x161,Z5,Za,Zb,Zc,Zg,Zh];simp only [↓hcsChn,entAsk,entLg20,entCh1,entCh2,entBLen,w0,w1,w2,w3,go_sem,YA,YS,YM,YL,YE,YD,YB,YN,YR,reduceIte,reduceCtorEq,↓reduceIte]
    simp only [w0,w1,w2,w3,td,reduceCtorEq]
    refine XW_for 2000 x161_0d [0,1,2,14,21,23,25,30] (Nat × List DRide) (fun s=>[(8,.val (.int .i64) (s.1:Int))]) (fun s=>[(32,.row 109 (.st (.cons (.int .i64) (.cons (.int .i64) (.int .i64)))) s.2)])
     (fun s=>1≤s.1∧(s.1≤R.length∨s.1=1)∧s.2.Perm R∧sortedTo s.2 s.1) (fun s=>R.length+1 - s.1) (1,R) ?_ ?_ ?_
    ·dsimp only [x161_0d];simp only [go_sem,YA,YS,YM,YL,YE,YD,YB,YN,YR,reduceIte,reduceCtorEq,↓reduceIte];try trivial
    ·exact ⟨Nat.le_refl _,.inr rfl,.refl _,fun a b h1 h2=>by omega⟩
    ·rintro ⟨i,L⟩ ⟨hi1,hi2,hLp,hLs⟩
     dsimp only at hi1 hi2 hLp hLs
     have hLl:=hLp.length_eq
     by_cases hil:i < R.length
     ·have w6:IntKind.i64.wrap ((i:Int)+1)=((i+1:Nat):Int):=i64_in _ (by omega)
      dsimp only [x161_0,x161_0d,Za];simp only [↓hcsChn,entAsk,entLg20,entCh1,entCh2,entBLen,hil,w6,go_sem,YA,YS,YM,YL,YE,YD,YB,YN,YR,reduceIte,reduceCtorEq,↓reduceIte]
      simp only [hil,w6,td,reduceCtorEq]
      refine XW_for 3000 x161_1d [0,1,2,14,21,23,25,30] (Nat × List DRide) (fun s=>[(9,.val (.int .i64) (s.1:Int))]) (fun s=>[(32,.row 109 (.st (.cons (.int .i64) (.cons (.int .i64) (.int .i64)))) s.2)])
       (fun s=>s.1≤i∧s.2.Perm R∧almost s.2 i s.1) (fun s=>s.1) (i,L) ?_ ?_ ?_
      ·dsimp only [x161_1d];simp only [go_sem,YA,YS,YM,YL,YE,YD,YB,YN,YR,reduceIte,reduceCtorEq,↓reduceIte];try trivial
      ·exact ⟨Nat.le_refl _,hLp,almost_start hLs⟩
      ·rintro ⟨j,L'⟩ ⟨hji,hLp',hLa⟩
       dsimp only at hji hLp' hLa
       have hLl':=hLp'.length_eq
       by_cases hj0:j=0
       ·dsimp only [x161_1,x161_1d,Z5,Za,Zc,Zf,Zh];simp only [↓hcsChn,entAsk,entLg20,entCh1,entCh2,entBLen,hil,w6,hLl',go_sem,YA,YS,YM,YL,YE,YD,YB,YN,YR,reduceIte,reduceCtorEq,↓reduceIte]
        simp only [hil,w6,hLl',td,reduceCtorEq]
        exact ⟨⟨fun h=>by omega,fun h=>by omega,fun h=>by omega,fun h=>by omega⟩,fun h=>by omega,fun _=>⟨(i+1,L'),by dsimp only;omega,⟨by dsimp only;omega,.inl (by dsimp only;omega),hLp',almost_done hLa hji (.inl hj0)⟩,rfl,rfl⟩⟩
       ·have w7:IntKind.i64.wrap ((j:Int) - 1)=((j - 1:Nat):Int):=(i64_in _ (by omega)).trans (by omega)
        have m1:=hRm _ (hLp'.mem_iff.1 (getD_mem2 (d:=dRd) (k:=j) (by omega)))
        have m2:=hRm _ (hLp'.mem_iff.1 (getD_mem2 (d:=dRd) (k:=j - 1) (by omega)))
        have w8:IntKind.i64.wrap ((L'.getD j (0,0,0)).1 - (L'.getD (j - 1) (0,0,0)).1)=(L'.getD j (0,0,0)).1 - (L'.getD (j - 1) (0,0,0)).1:=i64_in _ (by
         change 0≤(L'.getD j (0,0,0)).1∧(L'.getD j (0,0,0)).1≤_ at m1
         change 0≤(L'.getD (j - 1) (0,0,0)).1∧(L'.getD (j - 1) (0,0,0)).1≤_ at m2
         omega)
        dsimp only [x161_1,x161_1d,Z5,Za,Zc,Zf,Zh];simp only [↓hcsChn,entAsk,entLg20,entCh1,entCh2,entBLen,hil,w6,w7,w8,hLl',Int.toNat_natCast,go_sem,YA,YS,YM,YL,YE,YD,YB,YN,YR,reduceIte,reduceCtorEq,↓reduceIte]
        simp only [hil,w6,w7,w8,hLl',Int.toNat_natCast,List.length_set,td,reduceCtorEq]
        have hj1:j < R.length:=by omega
        have hj2:j - 1 < R.length:=by omega
        have hj3:((j - 1:Nat):Int) < R.length:=by omega
        have hj4:(0:Int)≤((j - 1:Nat):Int):=by omega
        have hj5:(0:Int) < j:=by omega
        refine ⟨by omega,fun h=>⟨by omega,(j - 1,swapR L' j),by dsimp only;omega,⟨by dsimp only;omega,(swapR_perm (by omega)).trans hLp',almost_step hLa (by omega) (by omega) hji ?_⟩,rfl,rfl⟩,fun h=>⟨(i+1,L'),by dsimp only;omega,⟨by dsimp only;omega,.inl (by dsimp only;omega),hLp',almost_done hLa hji (.inr ?_)⟩,rfl,rfl⟩⟩
        ·have:=h.2
         show (L'.getD j (0,0,0)).1 < (L'.getD (j - 1) (0,0,0)).1
         omega
        ·have:=h hj5
         show (L'.getD (j - 1) (0,0,0)).1≤(L'.getD j (0,0,0)).1
         omega
     ·dsimp only [x161_0,x161_0d,Za];simp only [↓hcsChn,entAsk,entLg20,entCh1,entCh2,entBLen,hil,go_sem,YA,YS,YM,YL,YE,YD,YB,YN,YR,reduceIte,reduceCtorEq,↓reduceIte]
      simp only [hil,td,reduceCtorEq]
      obtain rfl:L=ridesR (N,A,C,Q,P,S1,S2,S3) ss ss.length:=sorted_eq (hLp.trans hRp) (sortedTo_pairwise hLs (by omega)) (ridesR_sorted _ _ _)
      refine XW_for 3000 x25_1d [0,1,2,14,21,23,25,32] Nat (fun k=>[(117,.val (.int .i64) (k:Int))]) (fun k=>[(30,.row 95 (.st (.cons (.int .i64) (.int .i64))) ((List.range k).map fun k=>(legAt (N,A,C,Q,P,S1,S2,S3) c ss k).1))])
       (fun k=>k≤ss.length∧∀ k',k' < k→(legAt (N,A,C,Q,P,S1,S2,S3) c ss k').2=true) (fun k=>ss.length - k) 0 ?_ ?_ ?_
      ·dsimp only [x25_1d];simp only [go_sem,YA,YS,YM,YL,YE,YD,YB,YN,YR,reduceIte,reduceCtorEq,↓reduceIte];try trivial
      ·exact ⟨Nat.zero_le _,fun k hk=>by omega⟩
      ·rintro k ⟨hk,hB'⟩
       by_cases hkl:k < ss.length
       ·have w6:IntKind.i64.wrap ((k:Int)+1)=((k+1:Nat):Int):=i64_in _ (by omega)
        dsimp only [x25_1,x25_1d,Z12,Z2,Z23,Z3,Za,Zb,Zc,Zd,Zf,Zg];simp only [↓hcsChn,entAsk,entLg20,entCh1,entCh2,entBLen,hkl,hss,w6,go_sem,YA,YS,YM,YL,YE,YD,YB,YN,YR,reduceIte,reduceCtorEq,↓reduceIte]
        simp only [hkl,w6,td,reduceCtorEq]
        have hnd:∀ k:Nat,(if ((k:Nat):Int)=0 then k2 else if (ss.getD (Int.toNat (((k:Nat):Int) - 1)) dStop).2=true then (reqAt (N,A,C,Q,P,S1,S2,S3) (ss.getD (Int.toNat (((k:Nat):Int) - 1)) dStop).1).2.1 else (reqAt (N,A,C,Q,P,S1,S2,S3) (ss.getD (Int.toNat (((k:Nat):Int) - 1)) dStop).1).2.2.1)=nodeF (N,A,C,Q,P,S1,S2,S3) c ss k:=by
         intro k
         cases k with
         | zero =>
          refine (if_pos (show ((0:Nat):Int)=0 from rfl)).trans ?_
          show k2=(carAt (N,A,C,Q,P,S1,S2,S3) (c:Int)).2.1
          rw [hca]
         | succ k =>
          rw [if_neg (by omega),show Int.toNat (((k+1:Nat):Int) - 1)=k by omega,nodeF_s]
        have hwd:((List.range (ss.length+1)).map (winF (N,A,C,Q,P,S1,S2,S3) (c:Int) ss)).getD k (0,0)=winF (N,A,C,Q,P,S1,S2,S3) (c:Int) ss k:=by
         rw [List.getD_eq_getElem?_getD,List.getElem?_map,List.getElem?_range (by omega)];rfl
        have hwl:((List.range (ss.length+1)).map (winF (N,A,C,Q,P,S1,S2,S3) (c:Int) ss)).length=ss.length+1:=by rw [List.length_map,List.length_range]
        have hll:((List.range k).map fun k=>(legAt (N,A,C,Q,P,S1,S2,S3) (c:Int) ss k).1).length=k:=by rw [List.length_map,List.length_range]
        rw [hnd k,hnd (k+1),hwd,hwl,hll]
        have hLg:legF (N,A,C,Q,P,S1,S2,S3) (nodeF (N,A,C,Q,P,S1,S2,S3) c ss k) (nodeF (N,A,C,Q,P,S1,S2,S3) c ss (k+1)) (winF (N,A,C,Q,P,S1,S2,S3) c ss k)=legAt (N,A,C,Q,P,S1,S2,S3) c ss k:=rfl
        rw [hLg]
        have hwr:=win_rng ha (k:=k) (by omega)
        have hbk:(winF (N,A,C,Q,P,S1,S2,S3) c ss k).1≤(winF (N,A,C,Q,P,S1,S2,S3) c ss k).2:=by
         have:=hB k (by omega)
         unfold badW at this
         have:=of_decide_eq_false this
         omega
        refine ⟨⟨Int.ofNat_le.2 hk,Int.ofNat_le.2 hkl,by omega,by omega,hw,hwr,hbk⟩,fun h=>?_,fun h=>⟨by omega,k+1,by omega,⟨by omega,fun k' hk'=>?_⟩,rfl,range_map_s _ k⟩⟩
        ·have hz:chainF (N,A,C,Q,P,S1,S2,S3) c ss=(([],[],[]),4):=by
          unfold chainF
          rw [if_neg (by rw [ha];simp),if_neg ?_,if_pos (List.any_eq_true.2 ⟨k,List.mem_range.2 hkl,by rw [h];rfl⟩)];· rfl
          intro h'
          obtain ⟨i,hi,hb⟩:=List.any_eq_true.1 h'
          rw [hB i (by have:=List.mem_range.1 hi;omega)] at hb
          exact Bool.noConfusion hb
         rw [hz]
        ·rcases Nat.lt_or_ge k' k with q | q
         ·exact hB' k' q
         ·rw [show k' = k by omega];exact h
       ·dsimp only [x25_1,x25_1d,Z12,Z2,Z23,Z3,Za,Zb,Zc,Zd,Zf,Zg];simp only [↓hcsChn,entAsk,entLg20,entCh1,entCh2,entBLen,hkl,go_sem,YA,YS,YM,YL,YE,YD,YB,YN,YR,reduceIte,reduceCtorEq,↓reduceIte]
        simp only [hkl,td,reduceCtorEq]
        obtain rfl:k=ss.length:=by omega
        have hz:chainF (N,A,C,Q,P,S1,S2,S3) c ss=((winsF (N,A,C,Q,P,S1,S2,S3) c ss,legsF (N,A,C,Q,P,S1,S2,S3) c ss,ridesR (N,A,C,Q,P,S1,S2,S3) ss ss.length),0):=by
         unfold chainF
         rw [if_neg (by rw [ha];simp),if_neg ?_,if_neg ?_]
         ·intro h'
          obtain ⟨i,hi,hb⟩:=List.any_eq_true.1 h'
          rw [hB' i (List.mem_range.1 hi)] at hb
          exact Bool.noConfusion hb
         ·intro h'
          obtain ⟨i,hi,hb⟩:=List.any_eq_true.1 h'
          rw [hB i (by have:=List.mem_range.1 hi;omega)] at hb
          exact Bool.noConfusion hb
        rw [hz];rfl
end T
end
section
open Go.RowKit Go.IntWalk
namespace T
def entHigh:Ent:=⟨103,.cons (.int .i64) (.cons (.int .i64) (.cons (.ptr (.sl (.int .i64))) .nil)),(.int .i64),false,none,fun x=>((0≤(x.1:Int)∧(x.1:Int) < List.length (α:=Int) x.2.2.1)∧0≤(x.2.1:Int)∧(x.2.1:Int) < List.length (α:=Int) x.2.2.1)∧Within 0 1000000000 x.2.2.1,fun x=>List.getD (α:=Int) x.2.2.1 (x.2.1:Int).toNat 0 - List.getD (α:=Int) x.2.2.1 (x.1:Int).toNat 0⟩
def csHg:List Ent:=[] theorem hcsHg (f:FuncId):findEnt csHg f=findEnt [] f:=rfl
theorem conHigh:Con Tryz.prog entHigh:=by
 refine con_is (C:=csHg) x103 (by kernel_rfl) (by simp [csHg]) fun x hx hf=>?_
 obtain ⟨(a:Int),(b:Int),(S:List Int),_⟩:=x
 obtain ⟨⟨⟨h1,h2⟩,h3,h4⟩,hw⟩:=hx
 have h1:0≤a:=h1
 have h2:a < (S.length:Int):=h2
 have h3:0≤b:=h3
 have h4:b < (S.length:Int):=h4
 have hw:Within 0 1000000000 S:=hw
 have w1:=hw.getD (Int.le_refl _) (by omega) a.toNat
 have w2:=hw.getD (Int.le_refl _) (by omega) b.toNat
 dsimp only [entHigh,x103,Z1,Z11,Zb,Zf];simp only [↓hcsHg,go_sem,YA,YS,YM,YL,YE,YD,YB,YN,YR,reduceIte,reduceCtorEq,↓reduceIte];try simp only [td,reduceCtorEq]
 exact ⟨⟨⟨h3,h4⟩,h1,h2⟩,i64_in _ (by omega)⟩
def entGrd:Ent:=⟨48,.cons (.st (.cons (.sl (.st (.cons (.int .i64) (.int .i64)))) (.cons (.sl (.st (.cons (.int .i64) (.int .i64)))) (.sl (.st (.cons (.int .i64) (.cons (.int .i64) (.int .i64)))))))) .nil,.cons (.sl (.int .i64)) (.cons (.int .i64) .nil),true,none,fun _=>True,fun x=>((guardF x.1).1,(guardF x.1).2,())⟩
def csGr:List Ent:=[entRctR,entWorst,entHigh] theorem hcsGr (f:FuncId):findEnt csGr f=findEnt [entRctR,entWorst,entHigh] f:=rfl
set_option maxHeartbeats 4000000 in
theorem conGrd:Con Tryz.prog entGrd:=by
 refine con_isM (C:=csGr) z48 (by kernel_rfl) (by simp [csGr,conRctR,conWorst,conHigh]) fun x hx hf=>?_
 obtain ⟨⟨(W:List DWin),(L:List DLeg),(R:List DRide)⟩,_⟩:=x
 dsimp only [entGrd,z48,Z1,Z11,Z12,Z3,Za,Zb,Zc,Zd,Zg];simp only [↓hcsGr,entRctR,entWorst,entHigh,go_sem,YA,YS,YM,YL,YE,YD,YB,YN,YR,reduceIte,reduceCtorEq,↓reduceIte]
 try simp only [td,reduceCtorEq]
 refine ⟨fun h=>by unfold guardF;rw [if_pos h],fun hr=>?_⟩
 have hc:=(rightC_iff.1 hr).1
 dsimp only at hc
 have hps:∀ k,_:=fun k=>psF_bd hr k
 dsimp only at hps
 have hlr:∀ k,((List.range (k+1)).map (psF L)).length=k+1:=fun k=>by rw [List.length_map,List.length_range]
 refine XW_for 1000 z48_0d [0,1] Nat (fun j=>[(24,.val (.int .i64) (j:Int))]) (fun j=>[(7,.box 32 [.own 6]),(6,.row 3 (.int .i64) ((List.range (j+1)).map (psF L)))]) (fun j=>j≤L.length) (fun j=>L.length - j) 0 ?_ ?_ ?_
 ·dsimp only [z48_0d]
  simp only [go_sem,YA,YS,YM,YL,YE,YD,YB,YN,YR,reduceIte,reduceCtorEq,↓reduceIte]
  exact ⟨rfl,rfl⟩
 ·exact Nat.zero_le _
 intro j hj
 by_cases hj':j < L.length
 ·have w2:IntKind.i64.wrap ((j:Int)+1)=((j+1:Nat):Int):=i64_in _ (by omega)
  have w3:IntKind.i64.wrap (((j+1:Nat):Int) - 1)=(j:Int):=(i64_in _ (by omega)).trans (by omega)
  have hgd:((List.range (j+1)).map (psF L)).getD j 0=psF L j:=range_getD _ (by omega)
  dsimp only [z48_0,z48_0d,Z1,Z11,Z2,Zb,Zc,Zd,Zf]
  simp only [↓hcsGr,entRctR,entWorst,entHigh,hj',hlr,hgd,w2,w3,Int.toNat_natCast,go_sem,YA,YS,YM,YL,YE,YD,YB,YN,YR,reduceIte,reduceCtorEq,↓reduceIte]
  try simp only [hj',hlr,hgd,w2,w3,Int.toNat_natCast,td,reduceCtorEq]
  exact ⟨⟨by omega,by omega,by omega⟩,j+1,by omega,hj',rfl,by
   have h1:=hps j
   have h2:=right_leg hr (k:=j) hj'
   dsimp only at h2
   rw [i64_in (psF L j+(L.getD j (0,0)).2) (by omega)]
   exact range_snoc (psF L) (j+1)⟩
 obtain rfl:j=L.length:=by omega
 dsimp only [z48_0,z48_0d,Z1,Z11,Z2,Zb,Zc,Zd,Zf]
 simp only [↓hcsGr,entRctR,entWorst,entHigh,go_sem,YA,YS,YM,YL,YE,YD,YB,YN,YR,reduceIte,reduceCtorEq,↓reduceIte]
 simp only [hj',td,reduceCtorEq]
 rw [List.length_replicate]
 have w4:IntKind.i64.wrap ((W.length:Int) - 1)=(W.length:Int) - 1:=i64_in _ (by omega)
 rw [w4]
 refine ⟨by show (8:Int) * (W.length:Int)≤_;omega,?_⟩
 have hgl:∀ p,(gsF (W,L,R) (W.length - p)).length=W.length - p:=fun p=>gsF_len _ _
 have hgb:∀ p,Within 0 (85983232 * (((W.length - p:Nat):Int)+1)) (gsF (W,L,R) (W.length - p)):=fun p=>gs_bd hr _ (Nat.sub_le _ _)
 refine XW_for 2000 z48_1d [0,7,6] Nat (fun p=>[(9,.val (.int .i64) ((p:Int) - 1))]) (fun p=>[(1006,.row 3 (.int .i64) (aR p (gsF (W,L,R) (W.length - p))))]) (fun p=>p≤W.length∧∀ r ∈ R,(p:Int)≤r.1→lateR (W,L,R) r=false) (fun p=>p) W.length ?_ ?_ ?_
 ·dsimp only [z48_1d]
  simp only [go_sem,YA,YS,YM,YL,YE,YD,YB,YN,YR,reduceIte,reduceCtorEq,↓reduceIte]
  rw [Nat.sub_self]
  exact (List.append_nil _).symm
 ·refine ⟨Nat.le_refl _,fun r hrm hr2=>?_⟩
  have:=(rightC_iff.1 hr).2.2.2 r hrm
  dsimp only at this
  omega
 rintro p ⟨hp,hnl⟩
 have hrest:=hgl p
 have hrb:=hgb p
 generalize hG:gsF (W,L,R) (W.length - p)=rest at hrest hrb
 cases p with
 | succ k =>
  have e9:((k+1:Nat):Int) - 1=(k:Int):=by omega
  have e10:(k:Int) ≥ 0:=by omega
  dsimp only [z48_1,z48_1d,Z1,Z10,Z2,Z3,Za,Zb,Zd]
  simp only [↓hcsGr,entRctR,entWorst,entHigh,e9,e10,aR_set,aR_len,Int.toNat_natCast,go_sem,YA,YS,YM,YL,YE,YD,YB,YN,YR,reduceIte,reduceCtorEq,↓reduceIte]
  try simp only [e9,e10,aR_set,aR_len,Int.toNat_natCast,td,reduceCtorEq]
  refine ⟨⟨by omega,by omega⟩,?_⟩
  have hk:k < W.length:=by omega
  have hstep:=gs_step (W,L,R) (k:=k) hk
  rw [hG] at hstep
  have hfp:∀ i,0≤(R.take i).foldl (rF (W,L,R) k rest) (W.getD k (0,0)).1∧(R.take i).foldl (rF (W,L,R) k rest) (W.getD k (0,0)).1≤85983232 * (((W.length - (k+1):Nat):Int)+1)+85983232:=fun i=>by
   have h2:=right_win hr (k:=k) hk
   dsimp only at h2
   exact fold_bd hr (by omega) hrb (R.take i) (fun r hr=>List.mem_of_mem_take hr) _ h2.1 (by omega)
  refine XW_for 3000 z48_2d [0,7,6] Nat (fun i=>[(65,.val (.int .i64) (i:Int))]) (fun i=>[(1006,.row 3 (.int .i64) (bR k ((R.take i).foldl (rF (W,L,R) k rest) (W.getD k (0,0)).1) rest))]) (fun i=>i≤R.length∧∀ q,q < i→(R.getD q (0,0,0)).1=k→lateR (W,L,R) (R.getD q (0,0,0))=false) (fun i=>R.length - i) 0 ?_ ?_ ?_
  ·dsimp only [z48_2d]
   simp only [go_sem,YA,YS,YM,YL,YE,YD,YB,YN,YR,reduceIte,reduceCtorEq,↓reduceIte]
   exact ⟨rfl,rfl⟩
  ·exact ⟨Nat.zero_le _,fun q hq=>absurd hq (Nat.not_lt_zero _)⟩
  rintro i ⟨hi,hm⟩
  by_cases hi':i < R.length
  ·have w3:IntKind.i64.wrap ((i:Int)+1)=((i+1:Nat):Int):=i64_in _ (by omega)
   have hrd:=right_ride hr (k:=i) hi'
   have hts:R.take (i+1)=R.take i ++ [R.getD i (0,0,0)]:=by
    rw [List.take_succ_eq_append_getElem hi']
    simp [List.getD,hi']
   have hfi:=hfp i
   have hmem:=getD_mem2 (d:=((0,0,0):DRide)) hi'
   generalize hS:R.getD i (0,0,0)=r at hrd hts hmem
   generalize hA:(R.take i).foldl (rF (W,L,R) k rest) (W.getD k (0,0)).1=acc at hfi
   obtain ⟨a,b,d⟩:=r
   dsimp only at hrd
   by_cases hak:a=k
   ·subst hak
    obtain ⟨b,rfl⟩:∃ z:Nat,b=z:=⟨b.toNat,by omega⟩
    have hg1:((List.range (L.length+1)).map (psF L)).getD b 0=psF L b:=range_getD _ (by omega)
    have hg2:((List.range (L.length+1)).map (psF L)).getD k 0=psF L k:=range_getD _ (by omega)
    have hsw:Within 0 1000000000 ((List.range (L.length+1)).map (psF L)):=fun x hx=>by
     obtain ⟨q,hq,rfl⟩:=List.mem_map.1 hx
     have:=hps q
     have:=List.mem_range.1 hq
     omega
    have hbl:(b:Int) < ((L.length+1:Nat):Int):=by omega
    have hkl:k < L.length+1:=by omega
    have hb0:(0:Int)≤(b:Int):=Int.natCast_nonneg _
    by_cases hlate:d < psF L b - psF L k
    ·have hlt:guardF (W,L,R)=([],20):=by
      unfold guardF
      rw [if_neg (by rw [hr];simp),if_pos (late_any.2 ⟨_,hmem,by unfold lateR;dsimp only;rw [Int.toNat_natCast,Int.toNat_natCast];exact decide_eq_true hlate⟩)]
     dsimp only [z48_2,z48_2d,Z1,Z5,Za,Zb,Zc,Zg]
     simp only [↓hcsGr,entRctR,entWorst,entHigh,hi',hS,hA,w3,hlr,hg1,hg2,hsw,hbl,hkl,hb0,hlate,hlt,Int.toNat_natCast,go_sem,YA,YS,YM,YL,YE,YD,YB,YN,YR,reduceIte,reduceCtorEq,↓reduceIte]
     try simp only [hi',hS,hA,w3,hlr,hg1,hg2,hsw,hbl,hkl,hb0,hlate,hlt,Int.toNat_natCast,td,reduceCtorEq]
    have w5:IntKind.i64.wrap ((k:Int)+1)=((k+1:Nat):Int):=i64_in _ (by omega)
    dsimp only [z48_2,z48_2d,Z1,Z5,Za,Zb,Zc,Zg]
    simp only [↓hcsGr,entRctR,entWorst,entHigh,hi',hS,hA,w3,w5,hlr,hg1,hg2,hsw,hbl,hkl,hb0,hlate,Int.toNat_natCast,go_sem,YA,YS,YM,YL,YE,YD,YB,YN,YR,reduceIte,reduceCtorEq,↓reduceIte]
    try simp only [hi',hS,hA,w3,w5,hlr,hg1,hg2,hsw,hbl,hkl,hb0,hlate,Int.toNat_natCast,td,reduceCtorEq]
    have hla:lateR (W,L,R) ((k:Int),(b:Int),d)=false:=by
     unfold lateR
     dsimp only
     rw [Int.toNat_natCast,Int.toNat_natCast]
     exact decide_eq_false (by omega)
    have hrf:rF (W,L,R) k rest acc ((k:Int),(b:Int),d)=mF (W,L,R) k rest ((k:Int),(b:Int),d) acc (b - k):=by
     unfold rF
     rw [if_pos rfl]
     dsimp only
     rw [Int.toNat_natCast]
    have hmb:=mF_bd hr hmem rfl (by omega) hrb hfi.1 hfi.2
    dsimp only at hmb
    rw [Int.toNat_natCast] at hmb
    refine XW_for 4000 z48_3d [0,7,6,3003] Nat (fun q=>[(12,.val (.int .i64) ((k+1+q:Nat):Int))]) (fun q=>[(1006,.row 3 (.int .i64) (bR k (mF (W,L,R) k rest ((k:Int),(b:Int),d) acc q) rest))]) (fun q=>q≤b - k) (fun q=>b - k - q) 0 ?_ ?_ ?_
    ·dsimp only [z48_3d]
     simp only [go_sem,YA,YS,YM,YL,YE,YD,YB,YN,YR,reduceIte,reduceCtorEq,↓reduceIte]
     rfl
    ·exact Nat.zero_le _
    intro q hq
    by_cases hq':q < b - k
    ·have w6:IntKind.i64.wrap (((k+1+q:Nat):Int)+1)=((k+1+(q+1):Nat):Int):=(i64_in _ (by omega)).trans (by omega)
     have hcb:((k+1+q:Nat):Int)≤(b:Int):=by omega
     have hg3:((List.range (L.length+1)).map (psF L)).getD (k+1+q) 0=psF L (k+1+q):=range_getD _ (by omega)
     have hql:k+1+q < L.length+1:=by omega
     have hmq:=hmb q (by omega)
     have hrq:=hrb.getD (by omega) (by omega) q
     have hpm:=psF_mono hr (a:=k+1+q) (b:=b) (by omega)
     dsimp only at hpm
     have w7:IntKind.i64.wrap (rest.getD q 0+(psF L b - psF L (k+1+q)))=rest.getD q 0+(psF L b - psF L (k+1+q)):=i64_in _ (by omega)
     have w8:IntKind.i64.wrap (rest.getD q 0+(psF L b - psF L (k+1+q)) - d)=rest.getD q 0+(psF L b - psF L (k+1+q)) - d:=i64_in _ (by omega)
     dsimp only [z48_3,z48_3d,Z1,Za,Zb,Zc,Zf]
     simp only [↓hcsGr,entRctR,entWorst,entHigh,hcb,bR_len,bR_at,bR_rest,bR_set,hlr,hg1,hg3,hsw,hbl,hb0,hql,w6,w7,w8,Int.toNat_natCast,go_sem,YA,YS,YM,YL,YE,YD,YB,YN,YR,reduceIte,reduceCtorEq,↓reduceIte]
     try simp only [hcb,bR_len,bR_at,bR_rest,bR_set,hlr,hg1,hg3,hsw,hbl,hb0,hql,w6,w7,w8,Int.toNat_natCast,td,reduceCtorEq]
     refine ⟨⟨by omega,by omega,by omega,by omega,by omega⟩,q+1,by omega,by omega,rfl,?_⟩
     show _=bR k (maxI _ _) rest
     unfold maxI
     rw [Int.toNat_natCast]
    ·have hcb:¬ ((k+1+q:Nat):Int)≤(b:Int):=by omega
     dsimp only [z48_3,z48_3d,Z1,Za,Zb,Zc,Zf]
     simp only [↓hcsGr,entRctR,entWorst,entHigh,hcb,w3,go_sem,YA,YS,YM,YL,YE,YD,YB,YN,YR,reduceIte,reduceCtorEq,↓reduceIte]
     try simp only [hcb,w3,td,reduceCtorEq]
     obtain rfl:q=b - k:=by omega
     refine ⟨i+1,by omega,⟨hi',fun q hq e=>?_⟩,rfl,?_⟩
     ·by_cases c:q=i
      ·subst c
       rw [hS]
       exact hla
      ·exact hm q (by omega) e
     ·rw [hts,List.foldl_append,hA]
      show _=bR k (rF (W,L,R) k rest acc ((k:Int),(b:Int),d)) rest
      rw [hrf]
   ·dsimp only [z48_2,z48_2d,Z1,Z5,Za,Zb,Zc,Zg]
    simp only [↓hcsGr,entRctR,entWorst,entHigh,hi',hS,hA,hak,w3,hlr,Int.toNat_natCast,go_sem,YA,YS,YM,YL,YE,YD,YB,YN,YR,reduceIte,reduceCtorEq,↓reduceIte]
    try simp only [hi',hS,hA,hak,w3,hlr,Int.toNat_natCast,td,reduceCtorEq]
    refine ⟨i+1,by omega,⟨hi',fun q hq e=>?_⟩,rfl,?_⟩
    ·by_cases c:q=i
     ·subst c
      rw [hS] at e
      exact absurd e hak
     ·exact hm q (by omega) e
    ·rw [hts,List.foldl_append,hA]
     show _=bR k (rF (W,L,R) k rest acc (a,b,d)) rest
     unfold rF
     rw [if_neg hak]
  ·dsimp only [z48_2,z48_2d,Z1,Z5,Za,Zb,Zc,Zg]
   simp only [↓hcsGr,entRctR,entWorst,entHigh,hi',go_sem,YA,YS,YM,YL,YE,YD,YB,YN,YR,reduceIte,reduceCtorEq,↓reduceIte]
   try simp only [hi',td,reduceCtorEq]
   refine ⟨k,by omega,⟨by omega,fun r hrm hle=>?_⟩,i64_in _ (by omega),?_⟩
   ·by_cases c:r.1=k
    ·obtain ⟨q,hq,rfl⟩:=List.getElem_of_mem hrm
     have e:R.getD q (0,0,0)=R[q]:=by simp [List.getD,hq]
     have:=hm q (by omega)
     rw [e] at this
     exact this c
    ·exact hnl r hrm (by omega)
   ·rw [hstep,aR_bR,List.take_of_length_le (by omega)]
    rfl
 | zero =>
  have e10:¬ (((0:Nat):Int) - 1) ≥ 0:=by decide
  dsimp only [z48_1,z48_1d,Z1,Z10,Z2,Z3,Za,Zb,Zd]
  simp only [↓hcsGr,entRctR,entWorst,entHigh,e10,aR_zero,go_sem,YA,YS,YM,YL,YE,YD,YB,YN,YR,reduceIte,reduceCtorEq,↓reduceIte]
  try simp only [e10,aR_zero,td,reduceCtorEq]
  have hnl2:∀ r ∈ R,lateR (W,L,R) r=false:=fun r hrm=>hnl r hrm (by
   have:=(rightC_iff.1 hr).2.2.2 r hrm
   dsimp only at this
   show (0:Int)≤r.1
   omega)
  rw [Nat.sub_zero] at hG
  have hfit:fitsG (W,L,R) rest=true:=by rw [← hG];exact gs_fits hr hnl2
  have hwf:worstF (W,L,R) rest=(playF rest (highsF L),0):=by unfold worstF;rw [if_pos hfit]
  have hgu:guardF (W,L,R)=if inTime (W,L,R) (playF rest (highsF L))=false then ([],20) else (rest,0):=by
   unfold guardF
   rw [if_neg (by rw [hr];simp),if_neg (fun z=>by obtain ⟨r,h1,h2⟩:=late_any.1 z;rw [hnl2 r h1] at h2;cases h2)]
   dsimp only
   rw [hG]
  have hpl:(playF rest (highsF L)).length=W.length:=by rw [playF_len,highs_len];omega
  refine XW_top (XW_frz 8 1006 rfl rfl (XW_of ?_))
  simp only [↓hcsGr,entRctR,entWorst,entHigh,hwf,go_sem,YA,YS,YM,YL,YE,YD,YB,YN,YR,reduceIte,reduceCtorEq,↓reduceIte]
  try simp only [td,reduceCtorEq]
  generalize hP:playF rest (highsF L)=P at hgu hpl
  refine XW_for 5000 z48_4d [0] Nat (fun i=>[(119,.val (.int .i64) (i:Int))]) (fun _=>[]) (fun i=>i≤P.length∧∀ q,q < i→P.getD q 0≤(W.getD q (0,0)).2) (fun i=>P.length - i) 0 ?_ ?_ ?_
  ·dsimp only [z48_4d]
   simp only [go_sem,YA,YS,YM,YL,YE,YD,YB,YN,YR,reduceIte,reduceCtorEq,↓reduceIte]
   try trivial
  ·exact ⟨Nat.zero_le _,fun q hq=>absurd hq (Nat.not_lt_zero _)⟩
  rintro i ⟨hi,hm⟩
  have w3:i < P.length→IntKind.i64.wrap ((i:Int)+1)=((i+1:Nat):Int):=fun _=>i64_in _ (by omega)
  dsimp only [z48_4,z48_4d,Z1,Z2,Z3,Za,Zb,Zd,Zg]
  simp only [↓hcsGr,entRctR,entWorst,entHigh,go_sem,YA,YS,YM,YL,YE,YD,YB,YN,YR,reduceIte,reduceCtorEq,↓reduceIte]
  try simp only [td,reduceCtorEq]
  refine ⟨fun hi'=>⟨hi',by omega,fun h=>?_,fun h=>⟨i+1,by omega,⟨hi',fun q hq=>?_⟩,w3 hi'⟩⟩,fun hi'=>?_⟩
  ·rw [hgu,if_pos]
   rw [← Bool.not_eq_true]
   intro q
   have:=inTime_iff.1 q i hi'
   dsimp only at this
   omega
  ·by_cases c:q=i
   ·subst c;exact h
   ·exact hm q (by omega)
  ·rw [hgu,if_neg]
   rw [inTime_iff.2 fun q hq=>hm q (by omega)]
   simp
end T
end
section
open Go.RowKit Go.IntWalk
namespace T
def entRides:Ent:=⟨127,.cons (.sl (.st (.cons (.int .i64) .bool))) (.cons (.sl (.st (.cons (.int .i64) (.cons (.int .i64) (.cons (.int .i64) (.cons (.int .i64) (.cons (.int .i64) (.cons (.int .i64) (.cons (.int .i64) (.cons (.int .i64) (.cons (.int .i64) (.int .i64)))))))))))) (.cons (.int .i64) (.cons (.int .i64) .nil))),.bool,false,none,fun x=>0≤(x.2.2.2.1:Int),fun x=>ridesB x.1 x.2.1 x.2.2.1 (x.2.2.2.1:Int).toNat⟩
def csRi:List Ent:=[entIn] theorem hcsRi (f:FuncId):findEnt csRi f=findEnt [entIn] f:=rfl
theorem conRides:Con Tryz.prog entRides:=by
 refine con_is (C:=csRi) x127 (by kernel_rfl) (by simp [csRi,conIn]) fun x hx hf=>?_
 obtain ⟨(ss:List DStop),(rs:List DReq),(m:Int),(j:Int),_⟩:=x
 have hl:rs.length≤9223372036854775807:=hf.2.1.1
 have hx:0≤j:=hx
 obtain ⟨j,rfl⟩:∃ n:Nat,j=n:=⟨j.toNat,by omega⟩
 dsimp only [entRides,x127];simp only [↓hcsRi,entIn,go_sem,YA,YS,YM,YL,YE,YD,YB,YN,YR,reduceIte,reduceCtorEq,↓reduceIte];try simp only [td,reduceCtorEq]
 refine XW_for 1000 x127_0d [] Nat (fun i=>[(9,.val (.int .i64) (i:Int))]) (fun _=>[]) (fun n=>n≤rs.length∧∀ i,i < n→(decide ((rs.getD i dReq).1=m) && inB ss i j)=false) (fun i=>rs.length - i) 0 ?_ ?_ ?_
 ·dsimp only [x127_0d]
  simp only [go_sem,YA,YS,YM,YL,YE,YD,YB,YN,YR,reduceIte,reduceCtorEq,↓reduceIte]
  try rfl
 ·exact ⟨Nat.zero_le _,fun i hi=>by omega⟩
 ·rintro i ⟨hi,hn⟩
  dsimp only [x127_0,x127_0d,Z1,Z6,Za,Zb,Zc]
  simp only [↓hcsRi,entIn,go_sem,YA,YS,YM,YL,YE,YD,YB,YN,YR,reduceIte,reduceCtorEq,↓reduceIte]
  try simp only [td,reduceCtorEq]
  have w2:i < rs.length→IntKind.i64.wrap ((i:Int)+1)=((i+1:Nat):Int):=fun h=>i64_in _ (by omega)
  refine ⟨fun hi'=>⟨hi',fun q=>?_,fun q=>⟨i+1,by omega,⟨hi',fun k hk=>?_⟩,w2 hi'⟩⟩,fun hi'=>?_⟩
  ·symm
   unfold ridesB
   rw [List.any_eq_true]
   exact ⟨i,List.mem_range.2 hi',by simpa using q⟩
  ·by_cases c:k=i
   ·subst c;exact q
   ·intro z
    have:=hn k (by omega)
    rw [Bool.and_eq_false_imp] at this
    exact this (decide_eq_true z)
  ·symm
   unfold ridesB
   rw [List.any_eq_false]
   intro k hk
   have:=hn k (by rw [List.mem_range] at hk;omega)
   simp only [this,Bool.false_eq_true,not_false_eq_true]
def entAfter:Ent:=⟨179,.cons (.sl (.st (.cons (.int .i64) .bool))) (.cons (.sl (.st (.cons (.int .i64) (.cons (.int .i64) (.cons (.int .i64) (.cons (.int .i64) (.cons (.int .i64) (.cons (.int .i64) (.cons (.int .i64) (.cons (.int .i64) (.cons (.int .i64) (.int .i64)))))))))))) (.cons (.int .i64) .nil)),(.st (.cons (.int .i64) (.cons (.int .i64) (.int .i64)))),false,none,fun x=>rightS x.1 x.2.1=true∧0≤(x.2.2.1:Int),fun x=>afterF x.1 x.2.1 x.2.2.1⟩
def csAf:List Ent:=[entIn] theorem hcsAf (f:FuncId):findEnt csAf f=findEnt [entIn] f:=rfl
theorem conAfter:Con Tryz.prog entAfter:=by
 refine con_is (C:=csAf) x179 (by kernel_rfl) (by simp [csAf,conIn]) fun x hx hf=>?_
 obtain ⟨(ss:List DStop),(rs:List DReq),(j:Int),_⟩:=x
 obtain ⟨hr,hj⟩:=hx
 have hj:0≤j:=hj
 obtain ⟨j,rfl⟩:∃ n:Nat,j=n:=⟨j.toNat,by omega⟩
 have hr:RightS ss rs:=of_decide_eq_true hr
 have hl:rs.length≤30000:=hr.1.2
 dsimp only [entAfter,x179,Z5,Zg];simp only [↓hcsAf,entIn,go_sem,YA,YS,YM,YL,YE,YD,YB,YN,YR,reduceIte,reduceCtorEq,↓reduceIte];try simp only [td,reduceCtorEq]
 refine XW_for 1000 x179_0d [0] Nat (fun i=>[(8,.val (.int .i64) (i:Int))])
  (fun i=>[(1,.box 170 [.val (.int .i64) (sumTo (fun i=>if inB ss i j=true then rl rs i else (0,0,0)) i).1,.val (.int .i64) (sumTo (fun i=>if inB ss i j=true then rl rs i else (0,0,0)) i).2.1,.val (.int .i64) (sumTo (fun i=>if inB ss i j=true then rl rs i else (0,0,0)) i).2.2])]) (fun n=>n≤rs.length) (fun i=>rs.length - i) 0 ?_ ?_ ?_
 ·dsimp only [x179_0d]
  simp only [go_sem,YA,YS,YM,YL,YE,YD,YB,YN,YR,reduceIte,reduceCtorEq,↓reduceIte]
  try trivial
 ·exact Nat.zero_le _
 ·rintro i hi
  have hb:=sumTo_bd (n:=i) (f:=fun i=>if inB ss i j=true then rl rs i else (0,0,0)) (fun i _=>after_part hr j i)
  have hpt:=placesB_iff.1 (after_part hr j i)
  have hnx:sumTo (fun i=>if inB ss i j=true then rl rs i else (0,0,0)) (i+1)=add3 (sumTo (fun i=>if inB ss i j=true then rl rs i else (0,0,0)) i) (if inB ss i j=true then rl rs i else (0,0,0)):=rfl
  have hend:i=rs.length→sumTo (fun i=>if inB ss i j=true then rl rs i else (0,0,0)) i=afterF ss rs j:=fun e=>by rw [e];rfl
  generalize sumTo (fun i=>if inB ss i j=true then rl rs i else (0,0,0)) i=S at hb hnx hend ⊢
  obtain ⟨s1,s2,s3⟩:=S
  dsimp only [x179_0,x179_0d,Z1,Z6,Za,Zb,Zc,Zf]
  simp only [↓hcsAf,entIn,go_sem,YA,YS,YM,YL,YE,YD,YB,YN,YR,reduceIte,reduceCtorEq,↓reduceIte]
  try simp only [td,reduceCtorEq]
  have w2:i < rs.length→IntKind.i64.wrap ((i:Int)+1)=((i+1:Nat):Int):=fun h=>i64_in _ (by omega)
  dsimp only at hb hnx
  refine ⟨fun hi'=>⟨fun q=>⟨hi',hi',hi',i+1,by omega,hi',w2 hi',?_⟩,fun q=>⟨i+1,by omega,hi',w2 hi',?_⟩⟩,fun hi'=>hend (by omega)⟩
  ·rw [if_pos q] at hpt hnx
   rw [hnx]
   unfold add3 rl reqLoad at *
   rw [Int.toNat_natCast] at *
   dsimp only [dReq] at hpt ⊢
   exact ⟨i64_in _ (by omega),i64_in _ (by omega),i64_in _ (by omega)⟩
  ·rw [if_neg (by rw [q];simp)] at hnx
   rw [hnx,add3_zero]
   exact ⟨rfl,rfl,rfl⟩
theorem sumK_pick {rs:List DReq} {p:Int × Bool}:∀ {L:List (Int × Bool)} {i:Nat},L[i]? = some p→sumK rs (L.map (·.1))=add3 (rl rs p.1) (sumK rs ((L.eraseIdx i).map (·.1)))
 | [],_,h=>by simp at h
 | q :: r,0,h=>by
  simp only [List.getElem?_cons_zero,Option.some.injEq] at h
  subst h;rfl
 | q :: r,i+1,h=>by
  simp only [List.getElem?_cons_succ] at h
  rw [List.map_cons,sumK,sumK_pick h,List.eraseIdx_cons_succ,List.map_cons,sumK,← add3_assoc,add3_comm (rl rs q.1),add3_assoc]
theorem any_pick {α:Type} {f:α→Bool} {p:α}:∀ {L:List α} {i:Nat},L[i]? = some p→f p=false→(L.eraseIdx i).any f=L.any f
 | [],_,h,_=>by simp at h
 | q :: r,0,h,hf=>by
  simp only [List.getElem?_cons_zero,Option.some.injEq] at h
  subst h;simp [hf]
 | q :: r,i+1,h,hf=>by
  simp only [List.getElem?_cons_succ] at h
  rw [List.eraseIdx_cons_succ,List.any_cons,List.any_cons,any_pick h hf]
abbrev DMap:=List (Int × Bool)
def entCLoad:Ent:=⟨187,.cons (.mp .i64 .bool) (.cons (.sl (.st (.cons (.int .i64) (.cons (.int .i64) (.cons (.int .i64) (.cons (.int .i64) (.cons (.int .i64) (.cons (.int .i64) (.cons (.int .i64) (.cons (.int .i64) (.cons (.int .i64) (.int .i64)))))))))))) .nil),(.st (.cons (.int .i64) (.cons (.int .i64) (.int .i64)))),false,none,fun x=>(x.1:DMap).length≤30000∧∀ k ∈ (x.1:DMap),(0≤k.1∧k.1 < (x.2.1:List DReq).length)∧placesB (rl x.2.1 k.1)=true,fun x=>sumK x.2.1 ((x.1:DMap).map (·.1))⟩
def csCl:List Ent:=[entOf] theorem hcsCl (f:FuncId):findEnt csCl f=findEnt [entOf] f:=rfl
theorem conCLoad:Con Tryz.prog entCLoad:=by
 refine con_is (C:=csCl) x187 (by kernel_rfl) (by simp [csCl,conOf]) fun x hx hf=>?_
 obtain ⟨(H:DMap),(rs:List DReq),_⟩:=x
 obtain ⟨hn,hk⟩:=hx
 dsimp only at hn hk
 dsimp only [entCLoad,x187,Z5,Zb,Zg];simp only [↓hcsCl,entOf,go_sem,YA,YS,YM,YL,YE,YD,YB,YN,YR,reduceIte,reduceCtorEq,↓reduceIte];try simp only [td,reduceCtorEq]
 refine XW_for 1000 x187_0d [0] (DMap × DLoad) (fun _=>[])
  (fun s=>[(3,.it .i64 .bool s.1 none),(1,.box 184 [.val (.int .i64) s.2.1,.val (.int .i64) s.2.2.1,.val (.int .i64) s.2.2.2])])
  (fun s=>add3 s.2 (sumK rs (s.1.map (·.1)))=sumK rs (H.map (·.1))∧(∀ k ∈ s.1,k ∈ H)∧s.1.length≤H.length∧(0≤s.2.1∧s.2.1≤60 * (H.length - s.1.length))∧(0≤s.2.2.1∧s.2.2.1≤60 * (H.length - s.1.length))∧0≤s.2.2.2∧s.2.2.2≤60 * (H.length - s.1.length))
  (fun s=>s.1.length) (H,0,0,0) ?_ ?_ ?_
 ·dsimp only [x187_0d]
  simp only [go_sem,YA,YS,YM,YL,YE,YD,YB,YN,YR,reduceIte,reduceCtorEq,↓reduceIte]
  try trivial
 ·exact ⟨zero_add3 _,fun k hk=>hk,Nat.le_refl _,by dsimp only;omega,by dsimp only;omega,by dsimp only;omega⟩
 ·rintro ⟨L,s1,s2,s3⟩ ⟨hs,hL,hlen,hb1,hb2,hb3⟩
  dsimp only at hs hL hlen hb1 hb2 hb3
  dsimp only [x187_0,x187_0d,Z1,Z5,Z6,Za,Zb,Zc,Zd,Zg,Zi]
  simp only [↓hcsCl,entOf,go_sem,YA,YS,YM,YL,YE,YD,YB,YN,YR,reduceIte,reduceCtorEq,↓reduceIte]
  try simp only [td,reduceCtorEq]
  refine ⟨fun h0=>?_,fun i p hi=>?_⟩
  ·subst h0
   rw [← hs];exact (add3_zero _).symm
  ·have hil:=(List.getElem?_eq_some_iff.1 hi).1
   have hpH:p ∈ H:=hL p (List.mem_of_getElem? hi)
   obtain ⟨hr,hpl⟩:=hk p hpH
   have hpl:=placesB_iff.1 hpl
   unfold rl at hpl
   have hle:(L.eraseIdx i).length=L.length - 1:=List.length_eraseIdx_of_lt hil
   have hpk:=sumK_pick (rs:=rs) hi
   refine ⟨hr,(L.eraseIdx i,add3 (s1,s2,s3) (rl rs p.1)),by rw [hle];omega,⟨?_,fun k hk=>hL k (List.mem_of_mem_eraseIdx hk),by rw [hle];omega,?_⟩,rfl,?_⟩
   ·rw [add3_assoc,← hpk];exact hs
   ·rw [hle]
    unfold add3 rl
    dsimp only [dReq] at hpl ⊢
    omega
   ·unfold add3 rl
    dsimp only [dReq] at hpl ⊢
    exact ⟨i64_in _ (by omega),i64_in _ (by omega),i64_in _ (by omega)⟩
def entCHas:Ent:=⟨150,.cons (.mp .i64 .bool) (.cons (.int .i64) (.cons (.sl (.st (.cons (.int .i64) (.cons (.int .i64) (.cons (.int .i64) (.cons (.int .i64) (.cons (.int .i64) (.cons (.int .i64) (.cons (.int .i64) (.cons (.int .i64) (.cons (.int .i64) (.int .i64)))))))))))) .nil)),.bool,false,none,fun x=>∀ k ∈ (x.1:DMap),(0≤k.1∧k.1 < (x.2.2.1:List DReq).length),fun x=>(x.1:DMap).any fun k=>decide (((x.2.2.1:List DReq).getD k.1.toNat dReq).1=x.2.1)⟩
def csCh:List Ent:=[] theorem hcsCh (f:FuncId):findEnt csCh f=findEnt [] f:=rfl
theorem conCHas:Con Tryz.prog entCHas:=by
 refine con_is (C:=csCh) x150 (by kernel_rfl) (by simp [csCh]) fun x hx hf=>?_
 obtain ⟨(H:DMap),(m:Int),(rs:List DReq),_⟩:=x
 have hx:∀ k ∈ H,(0≤k.1∧k.1 < rs.length):=hx
 dsimp only [entCHas,x150,Zb];simp only [↓hcsCh,go_sem,YA,YS,YM,YL,YE,YD,YB,YN,YR,reduceIte,reduceCtorEq,↓reduceIte];try simp only [td,reduceCtorEq]
 refine XW_for 1000 x150_0d [] DMap (fun _=>[]) (fun s=>[(2,.it .i64 .bool s none)])
  (fun s=>(∀ k ∈ s,k ∈ H)∧s.any (fun k=>decide ((rs.getD k.1.toNat dReq).1=m))=H.any fun k=>decide ((rs.getD k.1.toNat dReq).1=m)) (fun s=>s.length) H ?_ ?_ ?_
 ·dsimp only [x150_0d]
  simp only [go_sem,YA,YS,YM,YL,YE,YD,YB,YN,YR,reduceIte,reduceCtorEq,↓reduceIte]
  try trivial
 ·exact ⟨fun k hk=>hk,rfl⟩
 ·rintro L ⟨hL,ha⟩
  dsimp only [x150_0,x150_0d,Z1,Z6,Za,Zb]
  simp only [↓hcsCh,go_sem,YA,YS,YM,YL,YE,YD,YB,YN,YR,reduceIte,reduceCtorEq,↓reduceIte]
  try simp only [td,reduceCtorEq]
  refine ⟨fun h0=>by subst h0;exact ha,fun i p hi=>⟨hx p (hL p (List.mem_of_getElem? hi)),fun q=>?_,fun q=>⟨L.eraseIdx i,?_,⟨fun k hk=>hL k (List.mem_of_mem_eraseIdx hk),?_⟩,rfl⟩⟩⟩
  ·symm
   rw [List.any_eq_true]
   exact ⟨p,hL p (List.mem_of_getElem? hi),decide_eq_true q⟩
  ·have hil:=(List.getElem?_eq_some_iff.1 hi).1
   rw [List.length_eraseIdx_of_lt hil];omega
  ·rw [← ha]
   exact any_pick hi (decide_eq_false q)
end T
end
section
open Go.RowKit Go.IntWalk
namespace T
theorem fst_keys (ks:List Int):(ks.map fun k=>(k,true)).map (fun x=>x.fst)=ks:=by rw [List.map_map];exact List.map_id _
theorem nodup_len:∀ {n:Nat} {ks:List Int},ks.Nodup→(∀ k ∈ ks,0≤k∧k < n)→ks.length≤n
 | 0,[],_,_=>Nat.le_refl _
 | 0,k :: r,_,h=>by have:=h k (by simp);omega
 | n+1,ks,hn,h=>by
  have h1:(kdel ks n).length≤n:=nodup_len (kdel_nodup hn) fun k hk=>by
   have:=(mem_kdel hn).1 hk
   have:=h k this.1
   omega
  have h2:∀ (k:Int) (ks:List Int),ks.length≤(kdel ks k).length+1:=fun k ks=>by
   induction ks with
   | nil=>simp
   | cons p r ih=>unfold kdel;split <;> simp <;> omega
  have:=h2 n ks
  omega
theorem look_ok {ss:List DStop} {rs:List DReq} (hr:RightS ss rs) {j:Nat} (hj:j≤ss.length):((cabK ss j).map fun k=>(k,true)).length≤30000∧∀ k ∈ (cabK ss j).map fun k=>(k,true),(0≤k.1∧k.1 < rs.length)∧placesB (rl rs k.1)=true:=by
 obtain ⟨h1,h2⟩:=cab_mem hr hj
 have h3:∀ k ∈ cabK ss j,(0≤k∧k < rs.length)∧placesB (rl rs k)=true:=fun k hk=>hr.in_req ((h2 k).1 hk)
 refine ⟨?_,fun k hk=>?_⟩
 ·rw [List.length_map]
  have:=nodup_len h1 fun k hk=>(h3 k hk).1
  have:=hr.1.2
  omega
 ·obtain ⟨x,hx,rfl⟩:=List.mem_map.1 hk
  exact h3 x hx
def entProf:Ent:=⟨144,.cons (.sl (.st (.cons (.int .i64) .bool))) (.cons (.sl (.st (.cons (.int .i64) (.cons (.int .i64) (.cons (.int .i64) (.cons (.int .i64) (.cons (.int .i64) (.cons (.int .i64) (.cons (.int .i64) (.cons (.int .i64) (.cons (.int .i64) (.int .i64)))))))))))) .nil),.cons (.sl (.st (.cons (.int .i64) (.cons (.int .i64) (.int .i64))))) (.cons (.int .i64) .nil),true,none,fun _=>True,fun x=>((profF x.1 x.2.1).1,(profF x.1 x.2.1).2,())⟩
def csPrf:List Ent:=[entRightS,entCLoad] theorem hcsPrf (f:FuncId):findEnt csPrf f=findEnt [entRightS,entCLoad] f:=rfl
theorem conProf:Con Tryz.prog entProf:=by
 refine con_is (C:=csPrf) x144 (by kernel_rfl) (by simp [csPrf,conRightS,conCLoad]) fun x hx hf=>?_
 obtain ⟨(ss:List DStop),(rs:List DReq),_⟩:=x
 have hl:ss.length≤9223372036854775807:=hf.1.1
 dsimp only [entProf,x144,x185,x189,x190,x186,Z1,Z5,Z7,Za,Zb,Zd,Zg]
 simp only [↓hcsPrf,entRightS,entCLoad,go_sem,YA,YS,YM,YL,YE,YD,YB,YN,YR,reduceIte,reduceCtorEq,↓reduceIte];try simp only [td,reduceCtorEq]
 refine ⟨fun h=>by unfold profF;rw [if_neg (by rw [h];simp)],fun h=>?_⟩
 have hr:RightS ss rs:=of_decide_eq_true h
 have hl:ss.length≤80:=hr.1.1
 have hrl:rs.length≤30000:=hr.1.2
 refine XW_for 1000 x189_0d [0,1,9] Nat (fun j=>[(11,.val (.int .i64) (j:Int))]) (fun j=>[(12,.mp .i64 .bool ((dropsK (ss.take j)).map fun k=>(k,true)))])
  (fun j=>j≤ss.length) (fun j=>ss.length - j) 0 ?_ ?_ ?_
 ·dsimp only [x189_0d]
  simp only [go_sem,YA,YS,YM,YL,YE,YD,YB,YN,YR,reduceIte,reduceCtorEq,↓reduceIte]
  try trivial
 ·exact Nat.zero_le _
 ·rintro j hj
  dsimp only [x189_0,x189_0d,Z1,Z8,Zb,Zc,Zd]
  simp only [↓hcsPrf,entRightS,entCLoad,go_sem,YA,YS,YM,YL,YE,YD,YB,YN,YR,reduceIte,reduceCtorEq,↓reduceIte]
  try simp only [td,reduceCtorEq]
  by_cases hj':j < ss.length
  ·have w2:IntKind.i64.wrap ((j:Int)+1)=((j+1:Nat):Int):=i64_in _ (by omega)
   have hd:=dropsK_next hj'
   dsimp only [dStop] at hd
   simp only [hj',w2,mset_keys,td,reduceCtorEq]
   refine ⟨fun q=>⟨j+1,by omega,hj',rfl,?_⟩,fun q=>⟨j+1,by omega,hj',rfl,?_⟩⟩
   ·rw [hd,dropK,if_neg (by rw [q];simp)]
   ·rw [hd,dropK,if_pos q]
  obtain rfl:j=ss.length:=by omega
  rw [List.take_of_length_le (Nat.le_refl _)]
  simp only [hj',td,reduceCtorEq]
  refine XW_for 2000 x189_1d [0,1,9] Nat (fun j=>[(24,.val (.int .i64) (j:Int))]) (fun j=>[(12,.mp .i64 .bool ((firstK ss (ss.take j)).map fun k=>(k,true)))])
   (fun j=>j≤ss.length) (fun j=>ss.length - j) 0 ?_ ?_ ?_
  ·dsimp only [x189_1d]
   simp only [go_sem,YA,YS,YM,YL,YE,YD,YB,YN,YR,reduceIte,reduceCtorEq,↓reduceIte]
   try trivial
  ·exact Nat.zero_le _
  ·rintro j hj
   dsimp only [x189_1,x189_1d,Z1,Z8,Zb,Zd]
   simp only [↓hcsPrf,entRightS,entCLoad,go_sem,YA,YS,YM,YL,YE,YD,YB,YN,YR,reduceIte,reduceCtorEq,↓reduceIte]
   try simp only [td,reduceCtorEq]
   by_cases hj':j < ss.length
   ·have w2:IntKind.i64.wrap ((j:Int)+1)=((j+1:Nat):Int):=i64_in _ (by omega)
    have hd:=firstK_next (ss:=ss) hj'
    dsimp only [dStop] at hd
    simp only [hj',w2,mdel_keys,td,reduceCtorEq]
    refine ⟨fun q=>⟨j+1,by omega,hj',rfl,?_⟩,fun q=>⟨j+1,by omega,hj',rfl,?_⟩⟩
    ·rw [hd,pickK,if_pos q]
    ·rw [hd,pickK,if_neg (by rw [q];simp)]
   obtain rfl:j=ss.length:=by omega
   rw [List.take_of_length_le (Nat.le_refl _)]
   simp only [hj',fst_keys,td,reduceCtorEq]
   have hlook:∀ j,j≤ss.length→((cabK ss j).map fun k=>(k,true)).length≤30000∧∀ k ∈ (cabK ss j).map fun k=>(k,true),(0≤k.1∧k.1 < rs.length)∧placesB (rl rs k.1)=true:=fun j hj=>look_ok hr hj
   refine ⟨hlook 0 (Nat.zero_le _),?_⟩
   refine XW_for 3000 x185_0d [0,1,9] Nat (fun j=>[(17,.val (.int .i64) (j:Int)),(6,.own 2011)])
    (fun j=>[(2011,.row 184 (.st (.cons (.int .i64) (.cons (.int .i64) (.int .i64)))) ((List.range (j+1)).map fun i=>sumK rs (cabK ss i))),(12,.mp .i64 .bool ((cabK ss j).map fun k=>(k,true)))]) (fun j=>j≤ss.length) (fun j=>ss.length - j) 0 ?_ ?_ ?_
   ·dsimp only [x185_0d]
    simp only [go_sem,YA,YS,YM,YL,YE,YD,YB,YN,YR,reduceIte,reduceCtorEq,↓reduceIte]
    exact ⟨rfl,rfl,rfl⟩
   ·exact Nat.zero_le _
   ·rintro j hj
    dsimp only [x185_0,x185_0d,x190,x186,Z1,Z5,Z7,Z8,Za,Zb,Zc,Zd]
    simp only [↓hcsPrf,entRightS,entCLoad,go_sem,YA,YS,YM,YL,YE,YD,YB,YN,YR,reduceIte,reduceCtorEq,↓reduceIte]
    try simp only [mset_keys,mdel_keys,fst_keys,td,reduceCtorEq]
    have w2:j < ss.length→IntKind.i64.wrap ((j:Int)+1)=((j+1:Nat):Int):=fun h=>i64_in _ (by omega)
    have hlen:(((List.range (j+1)).map fun i=>sumK rs (cabK ss i)).length+1) * 24≤140737488355328:=by rw [List.length_map,List.length_range];omega
    have hsucc:(List.range (j+1+1)).map (fun i=>sumK rs (cabK ss i))=(List.range (j+1)).map (fun i=>sumK rs (cabK ss i)) ++ [sumK rs (cabK ss (j+1))]:=by rw [List.range_succ,List.map_append];rfl
    have hst:cabK ss (j+1)=stopK (cabK ss j) (ss.getD j (0,false)):=rfl
    refine ⟨fun hj'=>⟨hj',fun q=>?_,fun q=>?_⟩,fun hj'=>?_⟩
    ·rw [stopK,if_pos q] at hst
     rw [← hst]
     exact ⟨hlook (j+1) hj',hlen,j+1,by omega,hj',w2 hj',hsucc.symm,rfl⟩
    ·rw [stopK,if_neg (by rw [q];simp)] at hst
     rw [← hst]
     exact ⟨hlook (j+1) hj',hlen,j+1,by omega,hj',w2 hj',hsucc.symm,rfl⟩
    ·obtain rfl:j=ss.length:=by omega
     unfold profF
     rw [if_pos h]
     unfold loadsF
     have:(List.range (ss.length+1)).map (fun i=>sumK rs (cabK ss i))=(List.range (ss.length+1)).map fun j=>afterF ss rs (j:Nat):=List.map_congr_left fun i hi=>cab_load hr (by rw [List.mem_range] at hi;omega)
     rw [this]
end T
end
section
open Go.RowKit Go.IntWalk
namespace T
def entRProf:Ent:=⟨125,.cons (.sl (.st (.cons (.int .i64) .bool))) (.cons (.sl (.st (.cons (.int .i64) (.cons (.int .i64) (.cons (.int .i64) (.cons (.int .i64) (.cons (.int .i64) (.cons (.int .i64) (.cons (.int .i64) (.cons (.int .i64) (.cons (.int .i64) (.int .i64)))))))))))) .nil),.cons (.sl (.st (.cons (.int .i64) (.cons (.int .i64) (.int .i64))))) (.cons (.int .i64) .nil),true,none,fun _=>True,fun x=>((profF x.1 x.2.1).1,(profF x.1 x.2.1).2,())⟩
def csRprf:List Ent:=[entRRightS,entAfter] theorem hcsRprf (f:FuncId):findEnt csRprf f=findEnt [entRRightS,entAfter] f:=rfl
theorem conRProf:Con Tryz.prog entRProf:=by
 refine con_is (C:=csRprf) x125 (by kernel_rfl) (by simp [csRprf,conRRightS,conAfter]) fun x hx hf=>?_
 obtain ⟨(ss:List DStop),(rs:List DReq),_⟩:=x
 dsimp only [entRProf,x125,Z5,Za,Zb,Zg];simp only [↓hcsRprf,entRRightS,entAfter,go_sem,YA,YS,YM,YL,YE,YD,YB,YN,YR,reduceIte,reduceCtorEq,↓reduceIte];try simp only [td,reduceCtorEq]
 refine ⟨fun h=>by unfold profF;rw [if_neg (by rw [h];simp)],fun h=>?_⟩
 have hr:RightS ss rs:=of_decide_eq_true h
 have hl:ss.length≤80:=hr.1.1
 refine XW_for 1000 x125_0d [0] Nat (fun j=>[(7,.val (.int .i64) (j:Int)),(6,.own 6)]) (fun j=>[(6,.row 170 (.st (.cons (.int .i64) (.cons (.int .i64) (.int .i64)))) ((List.range j).map fun i=>afterF ss rs (i:Nat)))])
  (fun j=>j≤ss.length+1) (fun j=>ss.length+1 - j) 0 ?_ ?_ ?_
 ·dsimp only [x125_0d]
  simp only [go_sem,YA,YS,YM,YL,YE,YD,YB,YN,YR,reduceIte,reduceCtorEq,↓reduceIte]
  try trivial
 ·exact Nat.zero_le _
 ·rintro j hj
  dsimp only [x125_0,x125_0d,Z5,Za,Zb]
  simp only [↓hcsRprf,entRRightS,entAfter,h,go_sem,YA,YS,YM,YL,YE,YD,YB,YN,YR,reduceIte,reduceCtorEq,↓reduceIte]
  try simp only [td,reduceCtorEq]
  have w2:j≤ss.length→IntKind.i64.wrap ((j:Int)+1)=((j+1:Nat):Int):=fun h=>i64_in _ (by omega)
  have hsucc:(List.range (j+1)).map (fun i=>afterF ss rs (i:Nat))=(List.range j).map (fun i=>afterF ss rs (i:Nat)) ++ [afterF ss rs (j:Nat)]:=by rw [List.range_succ,List.map_append];rfl
  refine ⟨fun hj'=>⟨by rw [List.length_map,List.length_range];omega,j+1,by omega,by omega,w2 (by omega),hsucc.symm⟩,fun hj'=>?_⟩
  obtain rfl:j=ss.length+1:=by omega
  unfold profF
  rw [if_pos h]
  rfl
def entIxf:Ent:=⟨146,.cons (.sl (.st (.cons (.int .i64) (.cons (.int .i64) (.int .i64))))) (.cons (.fn (.st (.cons (.int .i64) (.cons (.int .i64) (.int .i64)))) .bool) .nil),(.int .i64),false,none,fun _=>True,fun x=>idxF (x.2.1:DLoad→Bool) (x.1:List DLoad)⟩
def csIxf:List Ent:=[] theorem hcsIxf (f:FuncId):findEnt csIxf f=findEnt [] f:=rfl
theorem conIxf:Con Tryz.prog entIxf:=by
 refine con_is (C:=csIxf) x146 (by kernel_rfl) (by simp [csIxf]) fun x hx hf=>?_
 obtain ⟨(l:List DLoad),(F:DLoad→Bool),_⟩:=x
 have hl:l.length≤9223372036854775807:=hf.1.1
 dsimp only [entIxf,x146,Zb];simp only [↓hcsIxf,go_sem,YA,YS,YM,YL,YE,YD,YB,YN,YR,reduceIte,reduceCtorEq,↓reduceIte];try simp only [td,reduceCtorEq]
 refine XW_for 1000 x146_0d [] Nat (fun j=>[(8,.val (.int .i64) (j:Int))]) (fun _=>[]) (fun j=>j≤l.length∧∀ i,i < j→F (l.getD i (0,0,0))=false) (fun j=>l.length - j) 0 ?_ ?_ ?_
 ·dsimp only [x146_0d]
  simp only [go_sem,YA,YS,YM,YL,YE,YD,YB,YN,YR,reduceIte,reduceCtorEq,↓reduceIte]
  try rfl
 ·exact ⟨Nat.zero_le _,fun i hi=>by omega⟩
 ·rintro j ⟨hj,hn⟩
  dsimp only [x146_0,x146_0d,Z5,Za,Zg]
  simp only [↓hcsIxf,go_sem,YA,YS,YM,YL,YE,YD,YB,YN,YR,reduceIte,reduceCtorEq,↓reduceIte]
  try simp only [td,reduceCtorEq]
  have w2:j < l.length→IntKind.i64.wrap ((j:Int)+1)=((j+1:Nat):Int):=fun h=>i64_in _ (by omega)
  refine ⟨fun hj'=>⟨hj',fun q=>(idxF_at hj' hn q).symm,fun q=>⟨j+1,by omega,⟨hj',fun i hi=>?_⟩,w2 hj'⟩⟩,fun hj'=>(idxF_none fun i hi=>hn i (by omega)).symm⟩
  by_cases c:i=j
  ·subst c;exact q
  ·exact hn i (by omega)
def entOver:Ent:=⟨147,.cons (.st (.cons (.int .i64) (.cons (.int .i64) (.int .i64)))) (.cons (.ptr (.st (.cons (.int .i64) (.cons (.int .i64) (.cons (.int .i64) (.cons (.int .i64) (.cons (.int .i64) (.cons (.int .i64) (.cons (.int .i64) (.cons (.int .i64) (.int .i64))))))))))) .nil),.bool,false,none,fun _=>True,fun x=>overB x.1 (carLoad x.2.1)⟩
def csOv:List Ent:=[] theorem hcsOv (f:FuncId):findEnt csOv f=findEnt [] f:=rfl
theorem conOver:Con Tryz.prog entOver:=by
 refine con_is (C:=csOv) x147 (by kernel_rfl) (by simp [csOv]) fun x hx hf=>?_
 obtain ⟨⟨(a:Int),(b:Int),(c:Int)⟩,⟨(c1:Int),(c2:Int),(c3:Int),(c4:Int),(c5:Int),(c6:Int),(c7:Int),(c8:Int),(c9:Int)⟩,_⟩:=x
 dsimp only [entOver,x147,Z1,Za,Zb,Zc,Ze];simp only [↓hcsOv,go_sem,YA,YS,YM,YL,YE,YD,YB,YN,YR,reduceIte,reduceCtorEq,↓reduceIte];try simp only [td,reduceCtorEq]
 unfold overB carLoad
 rw [Bool.or_assoc]
def entFits:Ent:=⟨85,.cons (.st (.cons (.int .i64) (.cons (.int .i64) (.cons (.int .i64) (.cons (.int .i64) (.cons (.int .i64) (.cons (.int .i64) (.cons (.int .i64) (.cons (.int .i64) (.int .i64)))))))))) (.cons (.sl (.st (.cons (.int .i64) .bool))) (.cons (.sl (.st (.cons (.int .i64) (.cons (.int .i64) (.cons (.int .i64) (.cons (.int .i64) (.cons (.int .i64) (.cons (.int .i64) (.cons (.int .i64) (.cons (.int .i64) (.cons (.int .i64) (.int .i64)))))))))))) .nil)),.cons (.int .i64) (.cons (.int .i64) .nil),true,none,fun _=>True,fun x=>((fitsF (carLoad x.1) x.2.1 x.2.2.1).1,(fitsF (carLoad x.1) x.2.1 x.2.2.1).2,())⟩
def csFts:List Ent:=[entProf,entPlaces,entIxf,entOver] theorem hcsFts (f:FuncId):findEnt csFts f=findEnt [entProf,entPlaces,entIxf,entOver] f:=rfl
theorem conFits:Con Tryz.prog entFits:=by
 refine con_is (C:=csFts) x85 (by kernel_rfl) (by simp [csFts,conProf,conPlaces,conIxf,conOver]) fun x hx hf=>?_
 obtain ⟨⟨(c1:Int),(c2:Int),(c3:Int),(c4:Int),(c5:Int),(c6:Int),(c7:Int),(c8:Int),(c9:Int)⟩,(ss:List DStop),(rs:List DReq),_⟩:=x
 dsimp only [entFits,x85,Z1,Z5,Za,Zb,Zc,Ze,Zg];simp only [↓hcsFts,entProf,entPlaces,entIxf,entOver,go_sem,YA,YS,YM,YL,YE,YD,YB,YN,YR,reduceIte,reduceCtorEq,↓reduceIte];try simp only [td,reduceCtorEq]
 refine ⟨fun q=>by rw [fits_bad (c:=carLoad (c1,c2,c3,c4,c5,c6,c7,c8,c9)) q],fun q=>⟨fun z=>by rw [fits_full (c:=carLoad (c1,c2,c3,c4,c5,c6,c7,c8,c9)) q z];rfl,fun z=>by rw [fits_ok (c:=carLoad (c1,c2,c3,c4,c5,c6,c7,c8,c9)) q z]⟩⟩
def entRFits:Ent:=⟨72,.cons (.st (.cons (.int .i64) (.cons (.int .i64) (.cons (.int .i64) (.cons (.int .i64) (.cons (.int .i64) (.cons (.int .i64) (.cons (.int .i64) (.cons (.int .i64) (.int .i64)))))))))) (.cons (.sl (.st (.cons (.int .i64) .bool))) (.cons (.sl (.st (.cons (.int .i64) (.cons (.int .i64) (.cons (.int .i64) (.cons (.int .i64) (.cons (.int .i64) (.cons (.int .i64) (.cons (.int .i64) (.cons (.int .i64) (.cons (.int .i64) (.int .i64)))))))))))) .nil)),.cons (.int .i64) (.cons (.int .i64) .nil),true,none,fun _=>True,fun x=>((fitsF (carLoad x.1) x.2.1 x.2.2.1).1,(fitsF (carLoad x.1) x.2.1 x.2.2.1).2,())⟩
def csRft:List Ent:=[entRProf,entPlace] theorem hcsRft (f:FuncId):findEnt csRft f=findEnt [entRProf,entPlace] f:=rfl
theorem conRFits:Con Tryz.prog entRFits:=by
 refine con_is (C:=csRft) x72 (by kernel_rfl) (by simp [csRft,conRProf,conPlace]) fun x hx hf=>?_
 obtain ⟨⟨(c1:Int),(c2:Int),(c3:Int),(c4:Int),(c5:Int),(c6:Int),(c7:Int),(c8:Int),(c9:Int)⟩,(ss:List DStop),(rs:List DReq),_⟩:=x
 dsimp only [entRFits,x72,Z1,Za,Zb,Zc,Ze,Zg];simp only [↓hcsRft,entRProf,entPlace,go_sem,YA,YS,YM,YL,YE,YD,YB,YN,YR,reduceIte,reduceCtorEq,↓reduceIte];try simp only [td,reduceCtorEq]
 have hlen:=profF_len (ss:=ss) (rs:=rs)
 refine ⟨fun q=>by rw [fits_bad (by rcases q with ((q | q) | q) | q <;> simp [placesB,carLoad,q])],fun q=>?_⟩
 have hq:(profF ss rs).2=0∧placesB (carLoad (c1,c2,c3,c4,c5,c6,c7,c8,c9))=true:=⟨q.1.1.1,by simp [placesB,carLoad,q.1.1.2,q.1.2,q.2]⟩
 refine XW_for 1000 x72_0d [0] Nat (fun j=>[(10,.val (.int .i64) (j:Int))]) (fun _=>[]) (fun j=>j≤(profF ss rs).1.length∧∀ i,i < j→overB ((profF ss rs).1.getD i (0,0,0)) (c5,c6,c7)=false) (fun j=>(profF ss rs).1.length - j) 0 ?_ ?_ ?_
 ·dsimp only [x72_0d]
  simp only [go_sem,YA,YS,YM,YL,YE,YD,YB,YN,YR,reduceIte,reduceCtorEq,↓reduceIte]
  try rfl
 ·exact ⟨Nat.zero_le _,fun i hi=>by omega⟩
 ·rintro j ⟨hj,hn⟩
  have e1:=fits_full hq
  have e2:=fits_ok hq
  generalize fitsF (carLoad (c1,c2,c3,c4,c5,c6,c7,c8,c9)) ss rs=R at e1 e2 ⊢
  have eo:overF (carLoad (c1,c2,c3,c4,c5,c6,c7,c8,c9)) (profF ss rs).1=idxF (fun x=>overB x (c5,c6,c7)) (profF ss rs).1:=rfl
  rw [eo] at e1 e2
  generalize (profF ss rs).1=l at hlen hj hn e1 e2 ⊢
  dsimp only [x72_0,x72_0d,Z1,Z5,Za,Zb,Zc,Zf,Zh]
  simp only [↓hcsRft,go_sem,YA,YS,YM,YL,YE,YD,YB,YN,YR,reduceIte,reduceCtorEq,↓reduceIte]
  try simp only [td,reduceCtorEq]
  have w2:j < l.length→IntKind.i64.wrap ((j:Int)+1)=((j+1:Nat):Int):=fun h=>i64_in _ (by omega)
  have ho:∀ x:DLoad,overB x (c5,c6,c7)=true ↔ (c5 < x.1∨c6 < x.2.1)∨c7 < x.2.2:=fun x=>by simp [overB,or_assoc]
  refine ⟨fun hj'=>⟨⟨hj',fun q=>⟨q,hj'⟩,fun q=>⟨q,hj'⟩⟩,fun q=>?_,fun q=>⟨j+1,by omega,⟨hj',fun i hi=>?_⟩,w2 hj'⟩⟩,fun hj'=>?_⟩
  ·have:=idxF_at (p:=fun x=>overB x (c5,c6,c7)) hj' hn ((ho _).2 q)
   rw [this] at e1
   rw [e1 (by omega)]
  ·by_cases c:i=j
   ·subst c
    rw [Bool.eq_false_iff]
    intro z
    have:=(ho _).1 z
    omega
   ·exact hn i (by omega)
  ·have:=idxF_none (p:=fun x=>overB x (c5,c6,c7)) (d:=(0,0,0)) fun i hi=>hn i (by omega)
   rw [this] at e2
   rw [e2 (by omega)]
end T
end
section
open Go.RowKit Go.IntWalk
namespace T
theorem look_in {ss:List DStop} {rs:List DReq} (hr:RightS ss rs) {j:Nat} (hj:j≤ss.length):∀ k ∈ (cabK ss j).map fun k=>(k,true),0≤k.1∧k.1 < rs.length:=fun k hk=>by
 obtain ⟨x,hx,rfl⟩:=List.mem_map.1 hk
 exact (hr.in_req (((cab_mem hr hj).2 x).1 hx)).1
theorem any_rides {ss:List DStop} {rs:List DReq} (hr:RightS ss rs) {j:Nat} (hj:j≤ss.length) (m:Int):((cabK ss j).map fun k=>(k,true)).any (fun k=>decide ((rs.getD k.1.toNat dReq).1=m))=ridesB ss rs m j:=by
 rw [Bool.eq_iff_iff]
 unfold ridesB
 simp only [List.any_eq_true,List.mem_map,List.mem_range,Bool.and_eq_true,decide_eq_true_eq]
 constructor
 ·rintro ⟨_,⟨x,hx,rfl⟩,h⟩
  have h2:=((cab_mem hr hj).2 x).1 hx
  have h3:=(hr.in_req h2).1
  refine ⟨x.toNat,by omega,h,?_⟩
  rw [Int.toNat_of_nonneg h3.1];exact h2
 ·rintro ⟨i,hi,h1,h2⟩
  exact ⟨((i:Int),true),⟨i,((cab_mem hr hj).2 i).2 h2,rfl⟩,h1⟩
def entRTog:Ent:=⟨73,.cons (.sl (.st (.cons (.int .i64) (.cons (.int .i64) .bool)))) (.cons (.sl (.st (.cons (.int .i64) .bool))) (.cons (.sl (.st (.cons (.int .i64) (.cons (.int .i64) (.cons (.int .i64) (.cons (.int .i64) (.cons (.int .i64) (.cons (.int .i64) (.cons (.int .i64) (.cons (.int .i64) (.cons (.int .i64) (.int .i64)))))))))))) .nil)),.bool,false,none,fun _=>True,fun x=>togF x.1 x.2.1 x.2.2.1⟩
def csRtg:List Ent:=[entRRightS,entRides] theorem hcsRtg (f:FuncId):findEnt csRtg f=findEnt [entRRightS,entRides] f:=rfl
theorem conRTog:Con Tryz.prog entRTog:=by
 refine con_is (C:=csRtg) x73 (by kernel_rfl) (by simp [csRtg,conRRightS,conRides]) fun x hx hf=>?_
 obtain ⟨(ps:List DPair),(ss:List DStop),(rs:List DReq),_⟩:=x
 have hpl:ps.length≤9223372036854775807:=hf.1.1
 dsimp only [entRTog,x73,Zb,Zg];simp only [↓hcsRtg,entRRightS,entRides,go_sem,YA,YS,YM,YL,YE,YD,YB,YN,YR,reduceIte,reduceCtorEq,↓reduceIte];try simp only [td,reduceCtorEq]
 refine ⟨fun h=>by unfold togF;rw [h];rfl,fun h=>?_⟩
 have hr:RightS ss rs:=of_decide_eq_true h
 have hl:ss.length≤80:=hr.1.1
 refine XW_for 1000 x73_0d [] Nat (fun j=>[(7,.val (.int .i64) (j:Int))]) (fun j=>[]) (fun n=>n≤ps.length∧∀ i,i < n→pairB ss rs (ps.getD i (0,0,false))=true) (fun j=>ps.length - j) 0 ?_ ?_ ?_
 ·dsimp only [x73_0d]
  simp only [go_sem,YA,YS,YM,YL,YE,YD,YB,YN,YR,reduceIte,reduceCtorEq,↓reduceIte]
  rfl
 ·exact ⟨Nat.zero_le _,fun i hi=>by omega⟩
 ·rintro n ⟨hn,hok⟩
  dsimp only [x73_0,x73_0d,Z14,Za,Zb,Zc,Zg]
  simp only [↓hcsRtg,entRRightS,entRides,h,go_sem,YA,YS,YM,YL,YE,YD,YB,YN,YR,reduceIte,reduceCtorEq,↓reduceIte]
  try simp only [td,reduceCtorEq]
  refine ⟨fun hn'=>?_,fun hn'=>tog_yes h fun i hi=>hok i (by omega)⟩
  have hpi:ps.getD n (0,0,false) ∈ ps:=by simp [List.getD,hn']
  have hno:=tog_no (rs:=rs) (ss:=ss) hn'
  have hyes:pairB ss rs (ps.getD n (0,0,false))=true→∀ i,i < n+1→pairB ss rs (ps.getD i (0,0,false))=true:=fun q i hi=>by
   by_cases c:i=n
   ·rw [c];exact q
   ·exact hok i (by omega)
  have wn:IntKind.i64.wrap ((n:Int)+1)=((n+1:Nat):Int):=i64_in _ (by omega)
  refine XW_for 2000 x73_1d [] Nat (fun j=>[(10,.val (.int .i64) (j:Int)),(8,.val .bool (someTo ss rs (ps.getD n (0,0,false)) j)),(9,.val .bool (bothTo ss rs (ps.getD n (0,0,false)) j))]) (fun _=>[]) (fun j=>j≤ss.length+1) (fun j=>ss.length+1 - j) 0 ?_ ?_ ?_
  ·dsimp only [x73_1d]
   simp only [go_sem,YA,YS,YM,YL,YE,YD,YB,YN,YR,reduceIte,reduceCtorEq,↓reduceIte]
   exact ⟨rfl,rfl,rfl⟩
  ·exact Nat.zero_le _
  ·rintro j hj
   have e1:=someTo_next ss rs (ps.getD n (0,0,false)) j
   have e2:=bothTo_next ss rs (ps.getD n (0,0,false)) j
   have e3:j=ss.length+1→someB ss rs (ps.getD n (0,0,false))=someTo ss rs (ps.getD n (0,0,false)) j:=fun e=>by rw [e];rfl
   have e4:j=ss.length+1→bothB ss rs (ps.getD n (0,0,false))=bothTo ss rs (ps.getD n (0,0,false)) j:=fun e=>by rw [e];rfl
   have e5:pairB ss rs (ps.getD n (0,0,false))=if (ps.getD n (0,0,false)).2.2=true then !someB ss rs (ps.getD n (0,0,false)) || bothB ss rs (ps.getD n (0,0,false)) else !bothB ss rs (ps.getD n (0,0,false)):=rfl
   dsimp only [x73_1,x73_1d,Z1,Z14,Za,Zb,Zc,Ze,Zg]
   simp only [↓hcsRtg,entRRightS,entRides,h,hn',go_sem,YA,YS,YM,YL,YE,YD,YB,YN,YR,reduceIte,reduceCtorEq,↓reduceIte]
   try simp only [td,reduceCtorEq]
   have w2:j≤ss.length→IntKind.i64.wrap ((j:Int)+1)=((j+1:Nat):Int):=fun h=>i64_in _ (by omega)
   refine ⟨fun hj'=>⟨hn',hn',fun q=>⟨q,fun z=>⟨q,z⟩⟩,j+1,by omega,by omega,w2 (by omega),e1.symm,e2.symm⟩,fun hj'=>?_⟩
   have hje:j=ss.length+1:=by omega
   rw [← e3 hje,← e4 hje]
   generalize someB ss rs (ps.getD n (0,0,false))=sm at e5 ⊢
   generalize bothB ss rs (ps.getD n (0,0,false))=bt at e5 ⊢
   refine ⟨⟨hn',fun q=>⟨q,fun z=>⟨q,z⟩⟩⟩,fun q=>hno ?_,fun q=>⟨n+1,by omega,⟨hn',hyes ?_⟩,wn⟩⟩
   ·rw [e5]
    generalize (ps.getD n (0,0,false)).2.2=pm at q ⊢
    cases pm <;> cases bt <;> cases sm <;> simp_all
   ·rw [e5]
    generalize (ps.getD n (0,0,false)).2.2=pm at q ⊢
    cases pm <;> cases bt <;> cases sm <;> simp_all
def entTog:Ent:=⟨86,.cons (.sl (.st (.cons (.int .i64) (.cons (.int .i64) .bool)))) (.cons (.sl (.st (.cons (.int .i64) .bool))) (.cons (.sl (.st (.cons (.int .i64) (.cons (.int .i64) (.cons (.int .i64) (.cons (.int .i64) (.cons (.int .i64) (.cons (.int .i64) (.cons (.int .i64) (.cons (.int .i64) (.cons (.int .i64) (.int .i64)))))))))))) .nil)),.bool,false,none,fun _=>True,fun x=>togF x.1 x.2.1 x.2.2.1⟩
def csTog:List Ent:=[entRightS,entCHas] theorem hcsTog (f:FuncId):findEnt csTog f=findEnt [entRightS,entCHas] f:=rfl
theorem conTog:Con Tryz.prog entTog:=by
 refine con_is (C:=csTog) x86 (by kernel_rfl) (by simp [csTog,conRightS,conCHas]) fun x hx hf=>?_
 obtain ⟨(ps:List DPair),(ss:List DStop),(rs:List DReq),_⟩:=x
 have hpl:ps.length≤9223372036854775807:=hf.1.1
 dsimp only [entTog,x86,Z7,Zb,Zg];simp only [↓hcsTog,entRightS,entCHas,go_sem,YA,YS,YM,YL,YE,YD,YB,YN,YR,reduceIte,reduceCtorEq,↓reduceIte];try simp only [td,reduceCtorEq]
 refine ⟨fun h=>by unfold togF;rw [h];rfl,fun h=>?_⟩
 have hr:RightS ss rs:=of_decide_eq_true h
 have hl:ss.length≤80:=hr.1.1
 refine XW_for 1000 x86_0d [0] Nat (fun j=>[(17,.val (.int .i64) (j:Int))]) (fun j=>[]) (fun n=>n≤ps.length∧∀ i,i < n→pairB ss rs (ps.getD i (0,0,false))=true) (fun j=>ps.length - j) 0 ?_ ?_ ?_
 ·dsimp only [x86_0d]
  simp only [go_sem,YA,YS,YM,YL,YE,YD,YB,YN,YR,reduceIte,reduceCtorEq,↓reduceIte]
  rfl
 ·exact ⟨Nat.zero_le _,fun i hi=>by omega⟩
 ·rintro n ⟨hn,hok⟩
  by_cases hn':n < ps.length
  case neg =>
   dsimp only [x86_0,x86_0d,Z14,Za,Zb,Zc,Ze,Zg]
   simp only [↓hcsTog,entRightS,entCHas,go_sem,YA,YS,YM,YL,YE,YD,YB,YN,YR,reduceIte,reduceCtorEq,↓reduceIte]
   simp only [td,reduceCtorEq]
   exact ⟨fun q=>absurd q hn',fun _=>tog_yes h fun i hi=>hok i (by omega)⟩
  have hno:=tog_no (rs:=rs) (ss:=ss) hn'
  have hyes:pairB ss rs (ps.getD n (0,0,false))=true→∀ i,i < n+1→pairB ss rs (ps.getD i (0,0,false))=true:=fun q i hi=>by
   by_cases c:i=n
   ·rw [c];exact q
   ·exact hok i (by omega)
  have wn:IntKind.i64.wrap ((n:Int)+1)=((n+1:Nat):Int):=i64_in _ (by omega)
  generalize hp:ps.getD n (0,0,false)=p at hno hyes
  obtain ⟨pa,pb,pm⟩:=p
  dsimp only [x86_0,x86_0d,x148,x189,x190,x149,Z1,Z14,Z7,Za,Zb,Zc,Zd,Ze,Zf,Zg]
  simp only [↓hcsTog,entRightS,entCHas,h,hn',hp,wn,go_sem,YA,YS,YM,YL,YE,YD,YB,YN,YR,reduceIte,reduceCtorEq,↓reduceIte]
  try simp only [td,reduceCtorEq]
  refine ⟨fun _=>⟨hn',?_⟩,fun q=>absurd hn' q⟩
  refine XW_for 2000 x189_0d [0,1003,1005,1006,1011] Nat (fun j=>[(11,.val (.int .i64) (j:Int))]) (fun j=>[(1014,.mp .i64 .bool ((dropsK (ss.take j)).map fun k=>(k,true)))])
   (fun j=>j≤ss.length) (fun j=>ss.length - j) 0 ?_ ?_ ?_
  ·dsimp only [x189_0d]
   simp only [go_sem,YA,YS,YM,YL,YE,YD,YB,YN,YR,reduceIte,reduceCtorEq,↓reduceIte]
   try trivial
  ·exact Nat.zero_le _
  ·rintro j hj
   dsimp only [x189_0,x189_0d,Z1,Z8,Zb,Zc,Zd]
   simp only [↓hcsTog,entRightS,entCHas,go_sem,YA,YS,YM,YL,YE,YD,YB,YN,YR,reduceIte,reduceCtorEq,↓reduceIte]
   try simp only [td,reduceCtorEq]
   by_cases hj':j < ss.length
   ·have w2:IntKind.i64.wrap ((j:Int)+1)=((j+1:Nat):Int):=i64_in _ (by omega)
    have hd:=dropsK_next hj'
    dsimp only [dStop] at hd
    simp only [hj',w2,mset_keys,td,reduceCtorEq]
    refine ⟨fun q=>⟨j+1,by omega,hj',rfl,?_⟩,fun q=>⟨j+1,by omega,hj',rfl,?_⟩⟩
    ·rw [hd,dropK,if_neg (by rw [q];simp)]
    ·rw [hd,dropK,if_pos q]
   obtain rfl:j=ss.length:=by omega
   rw [List.take_of_length_le (Nat.le_refl _)]
   simp only [hj',td,reduceCtorEq]
   refine XW_for 3000 x189_1d [0,1003,1005,1006,1011] Nat (fun j=>[(24,.val (.int .i64) (j:Int))]) (fun j=>[(1014,.mp .i64 .bool ((firstK ss (ss.take j)).map fun k=>(k,true)))])
    (fun j=>j≤ss.length) (fun j=>ss.length - j) 0 ?_ ?_ ?_
   ·dsimp only [x189_1d]
    simp only [go_sem,YA,YS,YM,YL,YE,YD,YB,YN,YR,reduceIte,reduceCtorEq,↓reduceIte]
    try trivial
   ·exact Nat.zero_le _
   ·rintro j hj
    dsimp only [x189_1,x189_1d,Z1,Z8,Zb,Zd]
    simp only [↓hcsTog,entRightS,entCHas,go_sem,YA,YS,YM,YL,YE,YD,YB,YN,YR,reduceIte,reduceCtorEq,↓reduceIte]
    try simp only [td,reduceCtorEq]
    by_cases hj':j < ss.length
    ·have w2:IntKind.i64.wrap ((j:Int)+1)=((j+1:Nat):Int):=i64_in _ (by omega)
     have hd:=firstK_next (ss:=ss) hj'
     dsimp only [dStop] at hd
     simp only [hj',w2,mdel_keys,td,reduceCtorEq]
     refine ⟨fun q=>⟨j+1,by omega,hj',rfl,?_⟩,fun q=>⟨j+1,by omega,hj',rfl,?_⟩⟩
     ·rw [hd,pickK,if_pos q]
     ·rw [hd,pickK,if_neg (by rw [q];simp)]
    obtain rfl:j=ss.length:=by omega
    rw [List.take_of_length_le (Nat.le_refl _)]
    simp only [hj',td,reduceCtorEq]
    have hri0:∀ m,((firstK ss ss).map fun k=>(k,true)).any (fun k=>decide ((rs.getD k.1.toNat dReq).1=m))=ridesB ss rs m 0:=fun m=>any_rides hr (Nat.zero_le _) m
    have hlk0:=(look_in hr (Nat.zero_le _):∀ k ∈ (cabK ss 0).map fun k=>(k,true),0≤k.1∧k.1 < rs.length)
    dsimp only [dReq] at hri0
    simp only [hri0]
    refine ⟨hlk0,?_⟩
    refine XW_for 4000 x148_0d [0,1003,1011] (Nat × List Bool) (fun s=>[(17,.val (.int .i64) (s.1:Int)),(6,.own 3037)])
     (fun s=>[(3037,.row 4 .bool s.2),(1006,.box 4 [.val .bool (bothTo ss rs (pa,pb,pm) (s.1+1))]),(1005,.box 4 [.val .bool (someTo ss rs (pa,pb,pm) (s.1+1))]),(1014,.mp .i64 .bool ((cabK ss s.1).map fun k=>(k,true)))]) (fun s=>s.1≤ss.length∧s.2.length=s.1+1) (fun s=>ss.length - s.1) (0,[ridesB ss rs pa 0 && ridesB ss rs pb 0]) ?_ ?_ ?_
    ·dsimp only [x148_0d]
     simp only [go_sem,YA,YS,YM,YL,YE,YD,YB,YN,YR,reduceIte,reduceCtorEq,↓reduceIte]
     have e1:(ridesB ss rs pa 0 && ridesB ss rs pb 0)=bothTo ss rs (pa,pb,pm) 1:=by rw [bothTo_next];rfl
     have e2:(ridesB ss rs pa 0 || ridesB ss rs pb 0)=someTo ss rs (pa,pb,pm) 1:=by rw [someTo_next];rfl
     exact ⟨rfl,e1,e2,rfl⟩
    ·exact ⟨Nat.zero_le _,rfl⟩
    ·rintro ⟨j,O⟩ ⟨hj,hO⟩
     dsimp only at hj hO
     have e1:=someTo_next ss rs (pa,pb,pm) (j+1)
     have e2:=bothTo_next ss rs (pa,pb,pm) (j+1)
     dsimp only [x148_0,x148_0d,x190,x149,Z1,Z7,Z8,Za,Zb,Zc,Zd,Ze,Zf]
     simp only [↓hcsTog,entRightS,entCHas,go_sem,YA,YS,YM,YL,YE,YD,YB,YN,YR,reduceIte,reduceCtorEq,↓reduceIte]
     try simp only [mset_keys,mdel_keys,td,reduceCtorEq]
     have w2:j < ss.length→IntKind.i64.wrap ((j:Int)+1)=((j+1:Nat):Int):=fun h=>i64_in _ (by omega)
     have hst:cabK ss (j+1)=stopK (cabK ss j) (ss.getD j (0,false)):=rfl
     have hpair:pairB ss rs (pa,pb,pm)=if pm=true then !someB ss rs (pa,pb,pm) || bothB ss rs (pa,pb,pm) else !bothB ss rs (pa,pb,pm):=rfl
     refine ⟨fun hj'=>⟨hj',fun q=>?_,fun q=>?_⟩,fun hj'=>?_⟩
     ·rw [stopK,if_pos q] at hst
      rw [← hst]
      simp only [any_rides hr (show j+1≤ss.length from hj')]
      exact ⟨look_in hr hj',fun z=>⟨z,fun y=>⟨z,y⟩⟩,by omega,(j+1,O ++ [bothTo ss rs (pa,pb,pm) (j+1) || ridesB ss rs pa (j+1) && ridesB ss rs pb (j+1)]),by dsimp only;omega,⟨hj',by rw [List.length_append,hO];rfl⟩,w2 hj',rfl,e2.symm,e1.symm,rfl⟩
     ·rw [stopK,if_neg (by rw [q];simp)] at hst
      rw [← hst]
      simp only [any_rides hr (show j+1≤ss.length from hj')]
      exact ⟨look_in hr hj',fun z=>⟨z,fun y=>⟨z,y⟩⟩,by omega,(j+1,O ++ [bothTo ss rs (pa,pb,pm) (j+1) || ridesB ss rs pa (j+1) && ridesB ss rs pb (j+1)]),by dsimp only;omega,⟨hj',by rw [List.length_append,hO];rfl⟩,w2 hj',rfl,e2.symm,e1.symm,rfl⟩
     ·obtain rfl:j=ss.length:=by omega
      have e3:someTo ss rs (pa,pb,pm) (ss.length+1)=someB ss rs (pa,pb,pm):=rfl
      have e4:bothTo ss rs (pa,pb,pm) (ss.length+1)=bothB ss rs (pa,pb,pm):=rfl
      rw [e3,e4]
      generalize someB ss rs (pa,pb,pm)=sm at hpair ⊢
      generalize bothB ss rs (pa,pb,pm)=bt at hpair ⊢
      refine ⟨fun q=>⟨q,fun z=>⟨q,z⟩⟩,fun q=>hno ?_,fun q=>⟨n+1,by omega,⟨hn',hyes ?_⟩,wn⟩⟩
      ·rw [hpair]
       cases pm <;> cases bt <;> cases sm <;> simp_all
      ·rw [hpair]
       cases pm <;> cases bt <;> cases sm <;> simp_all
end T
end
section
open Go.RowKit Go.IntWalk
namespace T
def begF (w:DWorld) (c:Int) (ss:List DStop):DChain × Int :=
 if asksF w c ss=false then (noChain,1) else if (fitsF (carLoad (carAt w c)) ss w.2.2.2.1).2≠0 then (noChain,27) else if togF w.2.2.2.2.1 ss w.2.2.2.1=false then (noChain,30) else chainF w c ss
def entBeg:Ent:=⟨42,.cons (.st (.cons (.int .i64) (.cons (.sl (.st (.cons (.int .i64) (.cons (.int .i64) (.cons (.sl (.int .i64)) (.sl (.int .i64))))))) (.cons (.sl (.st (.cons (.int .i64) (.cons (.int .i64) (.cons (.int .i64) (.cons (.int .i64) (.cons (.int .i64) (.cons (.int .i64) (.cons (.int .i64) (.cons (.int .i64) (.int .i64))))))))))) (.cons (.sl (.st (.cons (.int .i64) (.cons (.int .i64) (.cons (.int .i64) (.cons (.int .i64) (.cons (.int .i64) (.cons (.int .i64) (.cons (.int .i64) (.cons (.int .i64) (.cons (.int .i64) (.int .i64)))))))))))) (.cons (.sl (.st (.cons (.int .i64) (.cons (.int .i64) .bool)))) (.st (.cons (.int .i64) (.cons (.int .i64) (.int .i64)))))))))) (.cons (.int .i64) (.cons (.sl (.st (.cons (.int .i64) .bool))) .nil)),.cons (.st (.cons (.sl (.st (.cons (.int .i64) (.int .i64)))) (.cons (.sl (.st (.cons (.int .i64) (.int .i64)))) (.sl (.st (.cons (.int .i64) (.cons (.int .i64) (.int .i64)))))))) (.cons (.int .i64) .nil),true,none,fun x=>List.length (α:=DStop) x.2.2.1≤24,fun x=>((begF x.1 x.2.1 x.2.2.1).1,(begF x.1 x.2.1 x.2.2.1).2,())⟩
def csBeg:List Ent:=[entAsk,entFits,entTog,entChn] theorem hcsBeg (f:FuncId):findEnt csBeg f=findEnt [entAsk,entFits,entTog,entChn] f:=rfl
theorem conBeg:Con Tryz.prog entBeg:=by
 refine con_is (C:=csBeg) x42 (by kernel_rfl) (by simp [csBeg,conAsk,conFits,conTog,conChn]) fun x hx hf=>?_
 obtain ⟨⟨(N:Int),(A:List DArc),(C:List DCar),(Q:List DReq),(P:List DPair),(S1:Int),(S2:Int),(S3:Int)⟩,(c:Int),(ss:List DStop),_⟩:=x
 replace hx:ss.length≤24:=hx
 cases ha:asksF (N,A,C,Q,P,S1,S2,S3) c ss with
 | false =>
  have hz:begF (N,A,C,Q,P,S1,S2,S3) c ss=(([],[],[]),1):=by unfold begF;rw [if_pos ha];rfl
  dsimp only [entBeg,x42,Z12,Z18,Z21,Z22,Z23,Z7,Za,Zb,Zc,Zd,Zf,Zg,Zi];simp only [↓hcsBeg,entAsk,entFits,entTog,entChn,undef,ha,hz,go_sem,YA,YS,YM,YL,YE,YD,YB,YN,YR,reduceIte,reduceCtorEq,↓reduceIte]
  try simp only [ha,hz,td,reduceCtorEq]
 | true =>
  obtain ⟨hw,hc,hss⟩:=asks_iff.1 ha
  dsimp only at hc hss
  obtain ⟨c,rfl⟩:∃ z:Nat,c=z:=⟨c.toNat,by omega⟩
  have hcl:c < C.length:=by omega
  have hca:carAt (N,A,C,Q,P,S1,S2,S3) (c:Int)=C.getD c (0,0,0,0,0,0,0,0,0):=rfl
  have hz:begF (N,A,C,Q,P,S1,S2,S3) c ss=if (fitsF (carLoad (C.getD c (0,0,0,0,0,0,0,0,0))) ss Q).2≠0 then (noChain,27) else if togF P ss Q=false then (noChain,30) else chainF (N,A,C,Q,P,S1,S2,S3) c ss:=by
   unfold begF
   rw [if_neg (by rw [ha];simp),hca]
  dsimp only [entBeg,x42,Z12,Z18,Z21,Z22,Z23,Z7,Za,Zb,Zc,Zd,Zf,Zg,Zi];simp only [↓hcsBeg,entAsk,entFits,entTog,entChn,undef,ha,hcl,hx,Int.toNat_natCast,go_sem,YA,YS,YM,YL,YE,YD,YB,YN,YR,reduceIte,reduceCtorEq,↓reduceIte]
  try simp only [ha,hcl,hx,Int.toNat_natCast,td,reduceCtorEq]
  refine ⟨fun h=>?_,fun h=>⟨fun h2=>?_,fun h2=>?_⟩⟩
  ·rw [hz,if_pos h];rfl
  ·rw [hz,if_neg (fun q=>q h),if_pos h2];rfl
  ·rw [hz,if_neg (fun q=>q h),if_neg (by rw [h2];simp)]
end T
end
section
open Go.RowKit Go.IntWalk
namespace T
def entClS:Ent:=⟨38,.cons (.sl (.st (.cons (.int .i64) .bool))) .nil,(.sl (.st (.cons (.int .i64) .bool))),false,none,fun x=>List.length (α:=DStop) x.1≤1000000,fun x=>x.1⟩
def csClS:List Ent:=[] theorem hcsClS (f:FuncId):findEnt csClS f=findEnt [] f:=rfl
theorem conClS:Con Tryz.prog entClS:=by
 refine con_is (C:=csClS) x38 (by kernel_rfl) (by simp [csClS]) fun x hx hf=>?_
 obtain ⟨(S:List DStop),_⟩:=x
 have hS:S.length≤1000000:=hx
 dsimp only [entClS,x38,Z8,Za,Zg];simp only [↓hcsClS,go_sem,YA,YS,YM,YL,YE,YD,YB,YN,YR,reduceIte,reduceCtorEq,↓reduceIte];try simp only [td,reduceCtorEq]
 exact ⟨fun q=>q.symm,by omega⟩
theorem ext_getD {α:Type} (d:α) {a b:List α} (hl:a.length=b.length) (h:∀ i,i < a.length→a.getD i d=b.getD i d):a=b:=by
 refine List.ext_getElem hl fun i h1 h2=>?_
 have:=h i h1
 simpa [List.getD,h1,h2] using this
def entEqLg:Ent:=⟨43,.cons (.sl (.st (.cons (.int .i64) (.int .i64)))) (.cons (.sl (.st (.cons (.int .i64) (.int .i64)))) .nil),.bool,false,none,fun _=>True,fun x=>decide ((x.1:List DLeg)=x.2.1)⟩
def csEqLg:List Ent:=[] theorem hcsEqLg (f:FuncId):findEnt csEqLg f=findEnt [] f:=rfl
theorem conEqLg:Con Tryz.prog entEqLg:=by
 refine con_is (C:=csEqLg) x43 (by kernel_rfl) (by simp [csEqLg]) fun x hx hf=>?_
 obtain ⟨(a:List DLeg),(b:List DLeg),_⟩:=x
 have hl:a.length≤9223372036854775807:=hf.1.1
 by_cases hab:a.length=b.length
 ·have habi:(a.length:Int)=(b.length:Int):=by omega
  dsimp only [entEqLg,x43,Za,Zb,Zg];simp only [↓hcsEqLg,habi,go_sem,YA,YS,YM,YL,YE,YD,YB,YN,YR,reduceIte,reduceCtorEq,↓reduceIte]
  try simp only [habi,td,reduceCtorEq]
  refine XW_for 1000 x43_0d [] Nat (fun j=>[(13,.val (.int .i64) (j:Int))]) (fun _=>[]) (fun j=>j≤a.length∧∀ i,i < j→a.getD i (0,0)=b.getD i (0,0)) (fun j=>a.length - j) 0 ?_ ?_ ?_
  ·dsimp only [x43_0d];simp only [go_sem,YA,YS,YM,YL,YE,YD,YB,YN,YR,reduceIte,reduceCtorEq,↓reduceIte];try trivial
  ·exact ⟨Nat.zero_le _,fun i hi=>by omega⟩
  rintro j ⟨hj,hn⟩
  by_cases hja:j < a.length
  ·have hjb:j < b.length:=by omega
   have w2:IntKind.i64.wrap ((j:Int)+1)=((j+1:Nat):Int):=i64_in _ (by omega)
   have hne:a.getD j (0,0)≠b.getD j (0,0)→decide (a=b)=false:=fun h=>decide_eq_false fun z=>h (by rw [z])
   have hnx:a.getD j (0,0)=b.getD j (0,0)→∀ i,i < j+1→a.getD i (0,0)=b.getD i (0,0):=fun h i hi=>by
    rcases Nat.lt_or_ge i j with q | q
    ·exact hn i q
    ·rw [show i=j by omega];exact h
   generalize hA:a.getD j (0,0)=u at hne hnx
   generalize hB:b.getD j (0,0)=v at hne hnx
   obtain ⟨u1,u2⟩:=u
   obtain ⟨v1,v2⟩:=v
   have huv:((u1,u2)=(v1,v2)) ↔ u1=v1∧u2=v2:=Prod.mk.injEq _ _ _ _ ▸ Iff.rfl
   dsimp only [x43_0,x43_0d,Z2,Za,Zf];simp only [↓hcsEqLg,hja,hjb,w2,hA,hB,habi,go_sem,YA,YS,YM,YL,YE,YD,YB,YN,YR,reduceIte,reduceCtorEq,↓reduceIte]
   try simp only [hja,hjb,w2,hA,hB,habi,td,reduceCtorEq]
   exact ⟨fun h=>(hne (fun q=>h (huv.1 q).1 (huv.1 q).2)).symm,fun h=>⟨j+1,by omega,⟨by omega,hnx (huv.2 h)⟩,rfl⟩⟩
  ·have hjb:¬ j < b.length:=by omega
   have heq:decide (a=b)=true:=decide_eq_true (ext_getD (0,0) hab fun i hi=>hn i (by omega))
   dsimp only [x43_0,x43_0d,Z2,Za,Zf];simp only [↓hcsEqLg,hja,hjb,habi,heq,go_sem,YA,YS,YM,YL,YE,YD,YB,YN,YR,reduceIte,reduceCtorEq,↓reduceIte]
   try simp only [hja,hjb,habi,heq,td,reduceCtorEq]
 ·have habi:¬ (a.length:Int)=(b.length:Int):=by omega
  have hne:decide (a=b)=false:=decide_eq_false fun z=>hab (by rw [z])
  dsimp only [entEqLg,x43,Za,Zb,Zg];simp only [↓hcsEqLg,hab,habi,hne,go_sem,YA,YS,YM,YL,YE,YD,YB,YN,YR,reduceIte,reduceCtorEq,↓reduceIte]
  try simp only [hab,habi,hne,td,reduceCtorEq]
def entSmLg:Ent:=⟨35,.cons (.sl (.st (.cons (.int .i64) (.int .i64)))) (.cons (.sl (.st (.cons (.int .i64) (.int .i64)))) .nil),.bool,false,none,fun _=>True,fun x=>decide ((x.1:List DLeg)=x.2.1)⟩
def csSmLg:List Ent:=[] theorem hcsSmLg (f:FuncId):findEnt csSmLg f=findEnt [] f:=rfl
theorem conSmLg:Con Tryz.prog entSmLg:=by
 refine con_is (C:=csSmLg) x35 (by kernel_rfl) (by simp [csSmLg]) fun x hx hf=>?_
 obtain ⟨(a:List DLeg),(b:List DLeg),_⟩:=x
 have hl:a.length≤9223372036854775807:=hf.1.1
 by_cases hab:a.length=b.length
 ·have habi:(a.length:Int)=(b.length:Int):=by omega
  dsimp only [entSmLg,x35,Zb,Zg];simp only [↓hcsSmLg,habi,go_sem,YA,YS,YM,YL,YE,YD,YB,YN,YR,reduceIte,reduceCtorEq,↓reduceIte]
  try simp only [habi,td,reduceCtorEq]
  refine XW_for 1000 x35_0d [] Nat (fun j=>[(5,.val (.int .i64) (j:Int))]) (fun _=>[]) (fun j=>j≤a.length∧∀ i,i < j→a.getD i (0,0)=b.getD i (0,0)) (fun j=>a.length - j) 0 ?_ ?_ ?_
  ·dsimp only [x35_0d];simp only [go_sem,YA,YS,YM,YL,YE,YD,YB,YN,YR,reduceIte,reduceCtorEq,↓reduceIte];try trivial
  ·exact ⟨Nat.zero_le _,fun i hi=>by omega⟩
  rintro j ⟨hj,hn⟩
  by_cases hja:j < a.length
  ·have hjb:j < b.length:=by omega
   have w2:IntKind.i64.wrap ((j:Int)+1)=((j+1:Nat):Int):=i64_in _ (by omega)
   have hne:a.getD j (0,0)≠b.getD j (0,0)→decide (a=b)=false:=fun h=>decide_eq_false fun z=>h (by rw [z])
   have hnx:a.getD j (0,0)=b.getD j (0,0)→∀ i,i < j+1→a.getD i (0,0)=b.getD i (0,0):=fun h i hi=>by
    rcases Nat.lt_or_ge i j with q | q
    ·exact hn i q
    ·rw [show i=j by omega];exact h
   generalize hA:a.getD j (0,0)=u at hne hnx
   generalize hB:b.getD j (0,0)=v at hne hnx
   obtain ⟨u1,u2⟩:=u
   obtain ⟨v1,v2⟩:=v
   have huv:((u1,u2)=(v1,v2)) ↔ u1=v1∧u2=v2:=Prod.mk.injEq _ _ _ _ ▸ Iff.rfl
   dsimp only [x35_0,x35_0d,Z2,Za,Zf];simp only [↓hcsSmLg,hja,hjb,w2,hA,hB,habi,go_sem,YA,YS,YM,YL,YE,YD,YB,YN,YR,reduceIte,reduceCtorEq,↓reduceIte]
   try simp only [hja,hjb,w2,hA,hB,habi,td,reduceCtorEq]
   exact ⟨fun h=>(hne (fun q=>h (huv.1 q).1 (huv.1 q).2)).symm,fun h=>⟨j+1,by omega,⟨by omega,hnx (huv.2 h)⟩,rfl⟩⟩
  ·have hjb:¬ j < b.length:=by omega
   have heq:decide (a=b)=true:=decide_eq_true (ext_getD (0,0) hab fun i hi=>hn i (by omega))
   dsimp only [x35_0,x35_0d,Z2,Za,Zf];simp only [↓hcsSmLg,hja,hjb,habi,heq,go_sem,YA,YS,YM,YL,YE,YD,YB,YN,YR,reduceIte,reduceCtorEq,↓reduceIte]
   try simp only [hja,hjb,habi,heq,td,reduceCtorEq]
 ·have habi:¬ (a.length:Int)=(b.length:Int):=by omega
  have hne:decide (a=b)=false:=decide_eq_false fun z=>hab (by rw [z])
  dsimp only [entSmLg,x35,Zb,Zg];simp only [↓hcsSmLg,hab,habi,hne,go_sem,YA,YS,YM,YL,YE,YD,YB,YN,YR,reduceIte,reduceCtorEq,↓reduceIte]
  try simp only [hab,habi,hne,td,reduceCtorEq]
def entSmSt:Ent:=⟨17,.cons (.sl (.st (.cons (.int .i64) .bool))) (.cons (.sl (.st (.cons (.int .i64) .bool))) .nil),.bool,false,none,fun _=>True,fun x=>decide ((x.1:List DStop)=x.2.1)⟩
def csSmSt:List Ent:=[] theorem hcsSmSt (f:FuncId):findEnt csSmSt f=findEnt [] f:=rfl
theorem conSmSt:Con Tryz.prog entSmSt:=by
 refine con_is (C:=csSmSt) x17 (by kernel_rfl) (by simp [csSmSt]) fun x hx hf=>?_
 obtain ⟨(a:List DStop),(b:List DStop),_⟩:=x
 have hl:a.length≤9223372036854775807:=hf.1.1
 by_cases hab:a.length=b.length
 ·have habi:(a.length:Int)=(b.length:Int):=by omega
  dsimp only [entSmSt,x17,Zb,Zg];simp only [↓hcsSmSt,habi,go_sem,YA,YS,YM,YL,YE,YD,YB,YN,YR,reduceIte,reduceCtorEq,↓reduceIte]
  try simp only [habi,td,reduceCtorEq]
  refine XW_for 1000 x17_0d [] Nat (fun j=>[(5,.val (.int .i64) (j:Int))]) (fun _=>[]) (fun j=>j≤a.length∧∀ i,i < j→a.getD i (0,false)=b.getD i (0,false)) (fun j=>a.length - j) 0 ?_ ?_ ?_
  ·dsimp only [x17_0d];simp only [go_sem,YA,YS,YM,YL,YE,YD,YB,YN,YR,reduceIte,reduceCtorEq,↓reduceIte];try trivial
  ·exact ⟨Nat.zero_le _,fun i hi=>by omega⟩
  rintro j ⟨hj,hn⟩
  by_cases hja:j < a.length
  ·have hjb:j < b.length:=by omega
   have w2:IntKind.i64.wrap ((j:Int)+1)=((j+1:Nat):Int):=i64_in _ (by omega)
   have hne:a.getD j (0,false)≠b.getD j (0,false)→decide (a=b)=false:=fun h=>decide_eq_false fun z=>h (by rw [z])
   have hnx:a.getD j (0,false)=b.getD j (0,false)→∀ i,i < j+1→a.getD i (0,false)=b.getD i (0,false):=fun h i hi=>by
    rcases Nat.lt_or_ge i j with q | q
    ·exact hn i q
    ·rw [show i=j by omega];exact h
   generalize hA:a.getD j (0,false)=u at hne hnx
   generalize hB:b.getD j (0,false)=v at hne hnx
   obtain ⟨u1,u2⟩:=u
   obtain ⟨v1,v2⟩:=v
   have huv:((u1,u2)=(v1,v2)) ↔ u1=v1∧u2=v2:=Prod.mk.injEq _ _ _ _ ▸ Iff.rfl
   dsimp only [x17_0,x17_0d,Z8,Za,Zf];simp only [↓hcsSmSt,hja,hjb,w2,hA,hB,habi,go_sem,YA,YS,YM,YL,YE,YD,YB,YN,YR,reduceIte,reduceCtorEq,↓reduceIte]
   try simp only [hja,hjb,w2,hA,hB,habi,td,reduceCtorEq]
   exact ⟨fun h=>(hne (fun q=>h (huv.1 q).1 (huv.1 q).2)).symm,fun h=>⟨j+1,by omega,⟨by omega,hnx (huv.2 h)⟩,rfl⟩⟩
  ·have hjb:¬ j < b.length:=by omega
   have heq:decide (a=b)=true:=decide_eq_true (ext_getD (0,false) hab fun i hi=>hn i (by omega))
   dsimp only [x17_0,x17_0d,Z8,Za,Zf];simp only [↓hcsSmSt,hja,hjb,habi,heq,go_sem,YA,YS,YM,YL,YE,YD,YB,YN,YR,reduceIte,reduceCtorEq,↓reduceIte]
   try simp only [hja,hjb,habi,heq,td,reduceCtorEq]
 ·have habi:¬ (a.length:Int)=(b.length:Int):=by omega
  have hne:decide (a=b)=false:=decide_eq_false fun z=>hab (by rw [z])
  dsimp only [entSmSt,x17,Zb,Zg];simp only [↓hcsSmSt,hab,habi,hne,go_sem,YA,YS,YM,YL,YE,YD,YB,YN,YR,reduceIte,reduceCtorEq,↓reduceIte]
  try simp only [hab,habi,hne,td,reduceCtorEq]
end T
end
section
open Go.RowKit Go.IntWalk
namespace T
abbrev DPlan:=Int × List DStop × List DLeg × List Int
def noPlan:DPlan:=(0,[],[],[])
def makeF (w:DWorld) (c:Int) (ss:List DStop):DPlan × Int :=
 if (begF w c ss).2≠0 then (noPlan,(begF w c ss).2) else if (guardF (begF w c ss).1).2≠0 then (noPlan,20)
 else if restsF w (begF w c ss).1 (guardF (begF w c ss).1).1=false then (noPlan,29) else ((c,ss,(begF w c ss).1.2.1,(guardF (begF w c ss).1).1),0)
theorem makeF_eq (w:DWorld) (c:Int) (ss:List DStop):makeF w c ss=if (begF w c ss).2≠0 then (noPlan,(begF w c ss).2) else if (guardF (begF w c ss).1).2≠0 then (noPlan,20)
 else if restsF w (begF w c ss).1 (guardF (begF w c ss).1).1=false then (noPlan,29) else ((c,ss,(begF w c ss).1.2.1,(guardF (begF w c ss).1).1),0):=rfl
def okC (w:DWorld) (p:DPlan) (c:DChain):Bool:=decide (p.2.2.1=c.2.1) && (decide (p.2.2.2.length=c.1.length) && (allIn 1048576 p.2.2.2 && rightC c))
def checkP (w:DWorld) (p:DPlan):Int :=
 if (begF w p.1 p.2.1).2≠0 then (begF w p.1 p.2.1).2 else if okC w p (begF w p.1 p.2.1).1=false then 23
 else if keeps20 (begF w p.1 p.2.1).1 p.2.2.2=false then 20 else if restsF w (begF w p.1 p.2.1).1 p.2.2.2=false then 29 else 0
def lastI (l:List Int):Int:=l.getD (l.length - 1) 0
def endP (w:DWorld) (p:DPlan):Int × Int:=if checkP w p≠0 then (0,checkP w p) else (lastI (worstF (chainF w p.1 p.2.1).1 p.2.2.2).1,0)
theorem guard_fits {c:DChain} (h:(guardF c).2=0):fitsG c (guardF c).1=true:=by
 unfold guardF at h ⊢
 by_cases h1:rightC c=false
 ·rw [if_pos h1] at h;cases h
 ·rw [if_neg h1] at h ⊢
  by_cases h2:c.2.2.any (lateR c)=true
  ·rw [if_pos h2] at h;cases h
  ·rw [if_neg h2] at h ⊢
   by_cases h3:inTime c (playF (gsF c c.1.length) (highsF c.2.1))=false
   ·rw [if_pos h3] at h;cases h
   ·rw [if_neg h3]
    exact gs_fits (by simpa using h1) (late_none h2)
def entMk:Ent:=⟨23,.cons (.st (.cons (.int .i64) (.cons (.sl (.st (.cons (.int .i64) (.cons (.int .i64) (.cons (.sl (.int .i64)) (.sl (.int .i64))))))) (.cons (.sl (.st (.cons (.int .i64) (.cons (.int .i64) (.cons (.int .i64) (.cons (.int .i64) (.cons (.int .i64) (.cons (.int .i64) (.cons (.int .i64) (.cons (.int .i64) (.int .i64))))))))))) (.cons (.sl (.st (.cons (.int .i64) (.cons (.int .i64) (.cons (.int .i64) (.cons (.int .i64) (.cons (.int .i64) (.cons (.int .i64) (.cons (.int .i64) (.cons (.int .i64) (.cons (.int .i64) (.int .i64)))))))))))) (.cons (.sl (.st (.cons (.int .i64) (.cons (.int .i64) .bool)))) (.st (.cons (.int .i64) (.cons (.int .i64) (.int .i64)))))))))) (.cons (.int .i64) (.cons (.sl (.st (.cons (.int .i64) .bool))) .nil)),.cons (.st (.cons (.int .i64) (.cons (.sl (.st (.cons (.int .i64) .bool))) (.cons (.sl (.st (.cons (.int .i64) (.int .i64)))) (.sl (.int .i64)))))) (.cons (.int .i64) .nil),true,none,fun x=>List.length (α:=DStop) x.2.2.1≤24,fun x=>((makeF x.1 x.2.1 x.2.2.1).1,(makeF x.1 x.2.1 x.2.2.1).2,())⟩
def csMk:List Ent:=[entBeg,entGrd,entRst,entClS] theorem hcsMk (f:FuncId):findEnt csMk f=findEnt [entBeg,entGrd,entRst,entClS] f:=rfl
theorem conMk:Con Tryz.prog entMk:=by
 refine con_is (C:=csMk) x23 (by kernel_rfl) (by simp [csMk,conBeg,conGrd,conRst,conClS]) fun x hx hf=>?_
 obtain ⟨⟨(N:Int),(A:List DArc),(C:List DCar),(Q:List DReq),(P:List DPair),(S1:Int),(S2:Int),(S3:Int)⟩,(c:Int),(ss:List DStop),_⟩:=x
 replace hx:ss.length≤24:=hx
 have hx6:ss.length≤1000000:=by omega
 have hz:=makeF_eq (N,A,C,Q,P,S1,S2,S3) c ss
 generalize hb:begF (N,A,C,Q,P,S1,S2,S3) c ss=be at hz
 obtain ⟨ch,e⟩:=be
 dsimp only at hz
 by_cases he:e=0
 ·subst he
  rw [if_neg (by simp)] at hz
  generalize hg:guardF ch=gu at hz
  obtain ⟨gd,e⟩:=gu
  dsimp only at hz
  by_cases he:e=0
  ·subst he
   have hfit:fitsG ch gd=true:=by have:=guard_fits (c:=ch) (by rw [hg]);rwa [hg] at this
   rw [if_neg (by simp)] at hz
   obtain ⟨W,L,R⟩:=ch
   cases hr:restsF (N,A,C,Q,P,S1,S2,S3) (W,L,R) gd with
   | true =>
    rw [if_neg (by rw [hr];simp)] at hz
    dsimp only [entMk,x23,Z1,Z11,Z12,Z19,Z20,Z23,Z3,Za,Zb,Zc,Zd,Zg,Zi];simp only [↓hcsMk,entBeg,entGrd,entRst,entClS,undef,hx,hx6,hb,hg,hfit,hr,hz,go_sem,YA,YS,YM,YL,YE,YD,YB,YN,YR,reduceIte,reduceCtorEq,↓reduceIte]
    try simp only [hx,hx6,hb,hg,hfit,hr,hz,td,reduceCtorEq]
    all_goals rfl
   | false =>
    rw [if_pos hr] at hz
    dsimp only [entMk,x23,Z1,Z11,Z12,Z19,Z20,Z23,Z3,Za,Zb,Zc,Zd,Zg,Zi];simp only [↓hcsMk,entBeg,entGrd,entRst,entClS,undef,hx,hb,hg,hfit,hr,hz,go_sem,YA,YS,YM,YL,YE,YD,YB,YN,YR,reduceIte,reduceCtorEq,↓reduceIte]
    try simp only [hx,hb,hg,hfit,hr,hz,td,reduceCtorEq]
    all_goals rfl
  ·rw [if_pos he] at hz
   obtain ⟨W,L,R⟩:=ch
   dsimp only [entMk,x23,Z1,Z11,Z12,Z19,Z20,Z23,Z3,Za,Zb,Zc,Zd,Zg,Zi];simp only [↓hcsMk,entBeg,entGrd,entRst,entClS,undef,hx,hb,hg,he,hz,go_sem,YA,YS,YM,YL,YE,YD,YB,YN,YR,reduceIte,reduceCtorEq,↓reduceIte]
   try simp only [hx,hb,hg,he,hz,td,reduceCtorEq]
   all_goals rfl
 ·rw [if_pos he] at hz
  obtain ⟨W,L,R⟩:=ch
  dsimp only [entMk,x23,Z1,Z11,Z12,Z19,Z20,Z23,Z3,Za,Zb,Zc,Zd,Zg,Zi];simp only [↓hcsMk,entBeg,entGrd,entRst,entClS,undef,hx,hb,he,hz,go_sem,YA,YS,YM,YL,YE,YD,YB,YN,YR,reduceIte,reduceCtorEq,↓reduceIte]
  try simp only [hx,hb,he,hz,td,reduceCtorEq]
  all_goals rfl
theorem checkP_eq (w:DWorld) (p:DPlan):checkP w p=if (begF w p.1 p.2.1).2≠0 then (begF w p.1 p.2.1).2 else if okC w p (begF w p.1 p.2.1).1=false then 23
 else if keeps20 (begF w p.1 p.2.1).1 p.2.2.2=false then 20 else if restsF w (begF w p.1 p.2.1).1 p.2.2.2=false then 29 else 0:=rfl
theorem allIn_within {m:Int} {l:List Int}:allIn m l=true ↔ Within 0 m l:=by
 unfold allIn Within
 simp only [List.all_eq_true,decide_eq_true_eq]
theorem okC_fits {w:DWorld} {p:DPlan} {c:DChain} (h:okC w p c=true):rightC c=true∧fitsG c p.2.2.2=true:=by
 unfold okC at h
 simp only [Bool.and_eq_true,decide_eq_true_eq] at h
 obtain ⟨_,h2,h3,h4⟩:=h
 exact ⟨h4,fitsG_iff.2 ⟨h4,h2,fun x hx=>by have:=allIn_within.1 h3 x hx;omega⟩⟩
def entCkP:Ent:=⟨22,.cons (.st (.cons (.int .i64) (.cons (.sl (.st (.cons (.int .i64) (.cons (.int .i64) (.cons (.sl (.int .i64)) (.sl (.int .i64))))))) (.cons (.sl (.st (.cons (.int .i64) (.cons (.int .i64) (.cons (.int .i64) (.cons (.int .i64) (.cons (.int .i64) (.cons (.int .i64) (.cons (.int .i64) (.cons (.int .i64) (.int .i64))))))))))) (.cons (.sl (.st (.cons (.int .i64) (.cons (.int .i64) (.cons (.int .i64) (.cons (.int .i64) (.cons (.int .i64) (.cons (.int .i64) (.cons (.int .i64) (.cons (.int .i64) (.cons (.int .i64) (.int .i64)))))))))))) (.cons (.sl (.st (.cons (.int .i64) (.cons (.int .i64) .bool)))) (.st (.cons (.int .i64) (.cons (.int .i64) (.int .i64)))))))))) (.cons (.st (.cons (.int .i64) (.cons (.sl (.st (.cons (.int .i64) .bool))) (.cons (.sl (.st (.cons (.int .i64) (.int .i64)))) (.sl (.int .i64)))))) .nil),(.int .i64),false,none,fun x=>List.length (α:=DStop) (x.2.1:DPlan).2.1≤24,fun x=>checkP x.1 x.2.1⟩
def csCkP:List Ent:=[entBeg,entEqLg,entPin,entRctR,entKps,entRst] theorem hcsCkP (f:FuncId):findEnt csCkP f=findEnt [entBeg,entEqLg,entPin,entRctR,entKps,entRst] f:=rfl
theorem conCkP:Con Tryz.prog entCkP:=by
 refine con_is (C:=csCkP) x22 (by kernel_rfl) (by simp [csCkP,conBeg,conEqLg,conPin,conRctR,conKps,conRst]) fun x hx hf=>?_
 obtain ⟨⟨(N:Int),(A:List DArc),(C:List DCar),(Q:List DReq),(P:List DPair),(S1:Int),(S2:Int),(S3:Int)⟩,⟨(c:Int),(ss:List DStop),(Lg:List DLeg),(Lv:List Int)⟩,_⟩:=x
 replace hx:ss.length≤24:=hx
 have hz:=checkP_eq (N,A,C,Q,P,S1,S2,S3) (c,ss,Lg,Lv)
 dsimp only at hz
 generalize hb:begF (N,A,C,Q,P,S1,S2,S3) c ss=be at hz
 obtain ⟨ch,e⟩:=be
 dsimp only at hz
 obtain ⟨W,L,R⟩:=ch
 by_cases he:e=0
 ·subst he
  rw [if_neg (by simp)] at hz
  have hok:okC (N,A,C,Q,P,S1,S2,S3) (c,ss,Lg,Lv) (W,L,R)=(decide (Lg=L) && (decide (Lv.length=W.length) && (allIn 1048576 Lv && rightC (W,L,R)))):=rfl
  have hfit:=fun h=>okC_fits (w:=(N,A,C,Q,P,S1,S2,S3)) (p:=(c,ss,Lg,Lv)) (c:=(W,L,R)) h
  dsimp only at hfit
  cases hc:okC (N,A,C,Q,P,S1,S2,S3) (c,ss,Lg,Lv) (W,L,R) with
  | false =>
   rw [hc] at hok
   rw [if_pos hc] at hz
   dsimp only [entCkP,x22,Z1,Z11,Z12,Z19,Z23,Z3,Za,Zb,Zc,Zd,Ze,Zg];simp only [↓hcsCkP,entBeg,entEqLg,entPin,entRctR,entKps,entRst,undef,hx,hb,hz,go_sem,YA,YS,YM,YL,YE,YD,YB,YN,YR,reduceIte,reduceCtorEq,↓reduceIte]
   try simp only [hx,hb,hz,td,reduceCtorEq]
   intro h
   exfalso
   rw [decide_eq_true h.1.1.1,decide_eq_true h.1.1.2,h.1.2,h.2] at hok
   exact Bool.noConfusion hok
  | true =>
   rw [hc] at hok
   obtain ⟨hr,hf2⟩:=hfit hc
   rw [if_neg (by rw [hc];simp)] at hz
   have hok2:=hok.symm
   simp only [Bool.and_eq_true,decide_eq_true_eq] at hok2
   obtain ⟨o1,o2,o3,o4⟩:=hok2
   subst o1
   have o2i:(Lv.length:Int)=(W.length:Int):=by omega
   cases hk:keeps20 (W,Lg,R) Lv with
   | false =>
    rw [if_pos hk] at hz
    dsimp only [entCkP,x22,Z1,Z11,Z12,Z19,Z23,Z3,Za,Zb,Zc,Zd,Ze,Zg];simp only [↓hcsCkP,entBeg,entEqLg,entPin,entRctR,entKps,entRst,undef,hx,hb,o2,o2i,o3,hr,hf2,hk,hz,go_sem,YA,YS,YM,YL,YE,YD,YB,YN,YR,reduceIte,reduceCtorEq,↓reduceIte]
    try simp only [hx,hb,o2,o2i,o3,hr,hf2,hk,hz,td,reduceCtorEq]
   | true =>
    rw [if_neg (by rw [hk];simp)] at hz
    cases hs:restsF (N,A,C,Q,P,S1,S2,S3) (W,Lg,R) Lv with
    | false =>
     rw [if_pos hs] at hz
     dsimp only [entCkP,x22,Z1,Z11,Z12,Z19,Z23,Z3,Za,Zb,Zc,Zd,Ze,Zg];simp only [↓hcsCkP,entBeg,entEqLg,entPin,entRctR,entKps,entRst,undef,hx,hb,o2,o2i,o3,hr,hf2,hk,hs,hz,go_sem,YA,YS,YM,YL,YE,YD,YB,YN,YR,reduceIte,reduceCtorEq,↓reduceIte]
     try simp only [hx,hb,o2,o2i,o3,hr,hf2,hk,hs,hz,td,reduceCtorEq]
    | true =>
     rw [if_neg (by rw [hs];simp)] at hz
     dsimp only [entCkP,x22,Z1,Z11,Z12,Z19,Z23,Z3,Za,Zb,Zc,Zd,Ze,Zg];simp only [↓hcsCkP,entBeg,entEqLg,entPin,entRctR,entKps,entRst,undef,hx,hb,o2,o2i,o3,hr,hf2,hk,hs,hz,go_sem,YA,YS,YM,YL,YE,YD,YB,YN,YR,reduceIte,reduceCtorEq,↓reduceIte]
     try simp only [hx,hb,o2,o2i,o3,hr,hf2,hk,hs,hz,td,reduceCtorEq]
 ·rw [if_pos he] at hz
  dsimp only [entCkP,x22,Z1,Z11,Z12,Z19,Z23,Z3,Za,Zb,Zc,Zd,Ze,Zg];simp only [↓hcsCkP,entBeg,entEqLg,entPin,entRctR,entKps,entRst,undef,hx,hb,he,hz,go_sem,YA,YS,YM,YL,YE,YD,YB,YN,YR,reduceIte,reduceCtorEq,↓reduceIte]
  try simp only [hx,hb,he,hz,td,reduceCtorEq]
  all_goals rfl
theorem beg_ok {w:DWorld} {c:Int} {ss:List DStop} (h:(begF w c ss).2=0):begF w c ss=chainF w c ss:=by
 unfold begF at h ⊢
 by_cases h1:asksF w c ss=false
 ·rw [if_pos h1] at h;cases h
 ·rw [if_neg h1] at h ⊢
  by_cases h2:(fitsF (carLoad (carAt w c)) ss w.2.2.2.1).2≠0
  ·rw [if_pos h2] at h;cases h
  ·rw [if_neg h2] at h ⊢
   by_cases h3:togF w.2.2.2.2.1 ss w.2.2.2.1=false
   ·rw [if_pos h3] at h;cases h
   ·rw [if_neg h3]
theorem check_ok {w:DWorld} {p:DPlan} (h:checkP w p=0):begF w p.1 p.2.1=chainF w p.1 p.2.1∧(chainF w p.1 p.2.1).2=0∧okC w p (chainF w p.1 p.2.1).1=true∧keeps20 (chainF w p.1 p.2.1).1 p.2.2.2=true∧restsF w (chainF w p.1 p.2.1).1 p.2.2.2=true:=by
 unfold checkP at h
 by_cases h1:(begF w p.1 p.2.1).2≠0
 ·rw [if_pos h1] at h;exact absurd h h1
 ·rw [if_neg h1] at h
  have hb:=beg_ok (Decidable.not_not.1 h1)
  by_cases h2:okC w p (begF w p.1 p.2.1).1=false
  ·rw [if_pos h2] at h;cases h
  ·rw [if_neg h2] at h
   by_cases h3:keeps20 (begF w p.1 p.2.1).1 p.2.2.2=false
   ·rw [if_pos h3] at h;cases h
   ·rw [if_neg h3] at h
    by_cases h4:restsF w (begF w p.1 p.2.1).1 p.2.2.2=false
    ·rw [if_pos h4] at h;cases h
    ·rw [hb] at h1 h2 h3 h4
     exact ⟨hb,Decidable.not_not.1 h1,by simpa using h2,by simpa using h3,by simpa using h4⟩
theorem endP_eq (w:DWorld) (p:DPlan):endP w p=if checkP w p≠0 then (0,checkP w p) else (lastI (worstF (chainF w p.1 p.2.1).1 p.2.2.2).1,0):=rfl
def entEnd:Ent:=⟨24,.cons (.st (.cons (.int .i64) (.cons (.sl (.st (.cons (.int .i64) (.cons (.int .i64) (.cons (.sl (.int .i64)) (.sl (.int .i64))))))) (.cons (.sl (.st (.cons (.int .i64) (.cons (.int .i64) (.cons (.int .i64) (.cons (.int .i64) (.cons (.int .i64) (.cons (.int .i64) (.cons (.int .i64) (.cons (.int .i64) (.int .i64))))))))))) (.cons (.sl (.st (.cons (.int .i64) (.cons (.int .i64) (.cons (.int .i64) (.cons (.int .i64) (.cons (.int .i64) (.cons (.int .i64) (.cons (.int .i64) (.cons (.int .i64) (.cons (.int .i64) (.int .i64)))))))))))) (.cons (.sl (.st (.cons (.int .i64) (.cons (.int .i64) .bool)))) (.st (.cons (.int .i64) (.cons (.int .i64) (.int .i64)))))))))) (.cons (.st (.cons (.int .i64) (.cons (.sl (.st (.cons (.int .i64) .bool))) (.cons (.sl (.st (.cons (.int .i64) (.int .i64)))) (.sl (.int .i64)))))) .nil),.cons (.int .i64) (.cons (.int .i64) .nil),true,none,fun x=>List.length (α:=DStop) (x.2.1:DPlan).2.1≤24,fun x=>((endP x.1 x.2.1).1,(endP x.1 x.2.1).2,())⟩
def csEnd:List Ent:=[entCkP,entChn,entWorst] theorem hcsEnd (f:FuncId):findEnt csEnd f=findEnt [entCkP,entChn,entWorst] f:=rfl
theorem conEnd:Con Tryz.prog entEnd:=by
 refine con_is (C:=csEnd) x24 (by kernel_rfl) (by simp [csEnd,conCkP,conChn,conWorst]) fun x hx hf=>?_
 obtain ⟨⟨(N:Int),(A:List DArc),(C:List DCar),(Q:List DReq),(P:List DPair),(S1:Int),(S2:Int),(S3:Int)⟩,⟨(c:Int),(ss:List DStop),(Lg:List DLeg),(Lv:List Int)⟩,_⟩:=x
 replace hx:ss.length≤24:=hx
 have hz:=endP_eq (N,A,C,Q,P,S1,S2,S3) (c,ss,Lg,Lv)
 have hck:=fun h=>check_ok (w:=(N,A,C,Q,P,S1,S2,S3)) (p:=(c,ss,Lg,Lv)) h
 dsimp only at hz hck
 generalize he:checkP (N,A,C,Q,P,S1,S2,S3) (c,ss,Lg,Lv)=e at hz hck
 by_cases h0:e=0
 ·subst h0
  rw [if_neg (by simp)] at hz
  obtain ⟨_,_,hok,_,_⟩:=hck rfl
  generalize hch:chainF (N,A,C,Q,P,S1,S2,S3) c ss=ch at hz hok
  obtain ⟨⟨W,L,R⟩,e2⟩:=ch
  have hfit:=(okC_fits hok).2
  dsimp only at hfit hz
  have hw:worstF (W,L,R) Lv=(playF Lv (highsF L),0):=by unfold worstF;rw [if_pos hfit]
  have hpl:(playF Lv (highsF L)).length=L.length+1:=by rw [playF_len,highs_len]
  have hlen:=(rightC_iff.1 (fitsG_iff.1 hfit).1).1
  dsimp only at hlen
  have w1:IntKind.i64.wrap (((L.length+1:Nat):Int) - 1)=(L.length:Int):=(i64_in _ (by omega)).trans (by omega)
  rw [hw] at hz
  unfold lastI at hz
  dsimp only at hz
  rw [hpl,Nat.add_sub_cancel] at hz
  have hl0:L.length < L.length+1:=by omega
  dsimp only [entEnd,x24,Z1,Z11,Z12,Z19,Z20,Z23,Za,Zb,Zc,Zd,Zg];simp only [↓hcsEnd,entCkP,entChn,entWorst,undef,hx,he,hch,hw,hpl,w1,hl0,Int.toNat_natCast,go_sem,YA,YS,YM,YL,YE,YD,YB,YN,YR,reduceIte,reduceCtorEq,↓reduceIte]
  try simp only [hx,he,hch,hw,hpl,w1,hl0,Int.toNat_natCast,td,reduceCtorEq]
  rw [hz]
 ·rw [if_pos h0] at hz
  dsimp only [entEnd,x24,Z1,Z11,Z12,Z19,Z20,Z23,Za,Zb,Zc,Zd,Zg];simp only [↓hcsEnd,entCkP,entChn,entWorst,undef,hx,he,h0,hz,go_sem,YA,YS,YM,YL,YE,YD,YB,YN,YR,reduceIte,reduceCtorEq,↓reduceIte]
  try simp only [hx,he,h0,hz,td,reduceCtorEq]
end T
end
section
namespace T
abbrev DPlace:=Int × Int × Int × Int
@[reducible] def dPlace:DPlace:=(0,0,0,0)
def stopsI (ss:List DStop) (r a b:Int):List DStop:=if a < 0∨b < a∨(ss.length:Int) < b then [] else insF (insF ss b.toNat [(r,false)]) a.toNat [(r,true)]
def lineI (w:DWorld) (p:DPlan) (r:Int) (a b:Nat):DPlace:=((a:Int),(b:Int),(makeF w p.1 (stopsI p.2.1 r a b)).2,if (makeF w p.1 (stopsI p.2.1 r a b)).2=0 then (endP w (makeF w p.1 (stopsI p.2.1 r a b)).1).1 else 0)
def rowI (w:DWorld) (p:DPlan) (r:Int) (a:Nat):List DPlace:=(List.range (p.2.1.length+1 - a)).map fun i=>lineI w p r a (a+i)
def rowsI (w:DWorld) (p:DPlan) (r:Int):Nat→List DPlace
 | 0=>[]
 | j+1=>rowsI w p r j ++ rowI w p r j
def linesI (w:DWorld) (p:DPlan) (r:Int):List DPlace:=rowsI w p r (p.2.1.length+1)
def offI (n:Nat):Nat→Nat
 | 0=>0
 | j+1=>offI n j+(n+1 - j)
theorem rowI_len (w:DWorld) (p:DPlan) (r:Int) (a:Nat):(rowI w p r a).length=p.2.1.length+1 - a:=by unfold rowI;rw [List.length_map,List.length_range]
theorem rowsI_len (w:DWorld) (p:DPlan) (r:Int):∀ j,(rowsI w p r j).length=offI p.2.1.length j
 | 0=>rfl
 | j+1=>by unfold rowsI offI;rw [List.length_append,rowsI_len w p r j,rowI_len]
theorem rowsI_pre (w:DWorld) (p:DPlan) (r:Int) (j:Nat):∀ d,∃ R,rowsI w p r (j+d)=rowsI w p r j ++ R
 | 0=>⟨[],by rw [List.append_nil];rfl⟩
 | d+1=>by
  obtain ⟨R,h⟩:=rowsI_pre w p r j d
  exact ⟨R ++ rowI w p r (j+d),by rw [← List.append_assoc,← h];rfl⟩
theorem lines_at (w:DWorld) (p:DPlan) (r:Int) {j i:Nat} (hj:j≤p.2.1.length) (hi:i < p.2.1.length+1 - j) :
  (linesI w p r).take (offI p.2.1.length j+i)=rowsI w p r j ++ (rowI w p r j).take i∧(linesI w p r).getD (offI p.2.1.length j+i) dPlace=lineI w p r j (j+i)∧offI p.2.1.length j+i < (linesI w p r).length:=by
 obtain ⟨R,h⟩:=rowsI_pre w p r (j+1) (p.2.1.length - j)
 have e:linesI w p r=rowsI w p r j ++ (rowI w p r j ++ R):=by
  unfold linesI
  rw [show p.2.1.length+1=j+1+(p.2.1.length - j) by omega,h,← List.append_assoc]
  rfl
 have hl:=rowsI_len w p r j
 have hr:=rowI_len w p r j
 refine ⟨?_,?_,?_⟩
 ·rw [e,List.take_append,hl,List.take_of_length_le (by omega),show offI p.2.1.length j+i - offI p.2.1.length j=i by omega,List.take_append,show i - (rowI w p r j).length=0 by omega,List.take_zero,List.append_nil]
 ·have hi':i < (rowI w p r j).length:=by omega
  rw [e,List.getD_eq_getElem?_getD,List.getElem?_append_right (by omega),hl,show offI p.2.1.length j+i - offI p.2.1.length j=i by omega,List.getElem?_append_left hi',List.getElem?_eq_getElem hi']
  simp [rowI]
 ·rw [e,List.length_append,List.length_append];omega
theorem lines_len (w:DWorld) (p:DPlan) (r:Int):(linesI w p r).length=offI p.2.1.length (p.2.1.length+1):=rowsI_len _ _ _ _
def atN (L:List DPlace):Nat→Int
 | 0=>-1
 | k+1=>if (L.getD k dPlace).2.2.1=0∧(atN L k < 0∨(L.getD k dPlace).2.2.2 < (L.getD (atN L k).toNat dPlace).2.2.2) then (k:Int) else atN L k
def btN (L:List DPlace):Nat→Int
 | 0=>-1
 | k+1=>if (L.getD (L.length - 1 - k) dPlace).2.2.1=0∧(btN L k < 0∨(L.getD (L.length - 1 - k) dPlace).2.2.2≤(L.getD (btN L k).toNat dPlace).2.2.2) then ((L.length - 1 - k:Nat):Int) else btN L k
def isBest (L:List DPlace) (P:Nat→Prop) (x:Int):Prop :=
 (x = -1∧∀ i,P i→(L.getD i dPlace).2.2.1≠0)∨∃ k:Nat,x=k∧P k∧(L.getD k dPlace).2.2.1=0∧∀ i,P i→(L.getD i dPlace).2.2.1=0→(L.getD k dPlace).2.2.2≤(L.getD i dPlace).2.2.2∧(i < k→(L.getD k dPlace).2.2.2 < (L.getD i dPlace).2.2.2)
theorem isBest.same {L:List DPlace} {P:Nat→Prop} {x y:Int} (h:isBest L P x) (h':isBest L P y):x=y:=by
 rcases h with ⟨rfl,h⟩ | ⟨k,rfl,hk,h0,h⟩
 ·rcases h' with ⟨rfl,h'⟩ | ⟨k',rfl,hk',h0',h'⟩
  ·rfl
  ·exact absurd h0' (h k' hk')
 ·rcases h' with ⟨rfl,h'⟩ | ⟨k',rfl,hk',h0',h'⟩
  ·exact absurd h0 (h' k hk)
  ·have a:=h k' hk' h0'
   have b:=h' k hk h0
   rcases Nat.lt_trichotomy k k' with c | c | c
   ·have:=b.2 c;omega
   ·rw [c]
   ·have:=a.2 c;omega
theorem atN_best (L:List DPlace):∀ k,isBest L (fun i=>i < k) (atN L k)
 | 0=>.inl ⟨rfl,fun i hi=>by omega⟩
 | k+1=>by
  have ih:=atN_best L k
  unfold atN
  split
  ·rename_i c
   refine .inr ⟨k,rfl,by omega,c.1,fun i hi h0=>?_⟩
   rcases Nat.lt_or_ge i k with q | q
   ·rcases ih with ⟨e,h⟩ | ⟨m,e,hm,hm0,h⟩
    ·exact absurd h0 (h i q)
    ·have h1:=h i q h0
     rw [e] at c
     rcases c.2 with c2 | c2
     ·omega
     ·rw [Int.toNat_natCast] at c2;omega
   ·obtain rfl:i=k:=by omega
    exact ⟨Int.le_refl _,fun q=>by omega⟩
  ·rename_i c
   rcases ih with ⟨e,h⟩ | ⟨m,e,hm,hm0,h⟩
   ·refine .inl ⟨e,fun i hi h0=>?_⟩
    rcases Nat.lt_or_ge i k with q | q
    ·exact h i q h0
    ·obtain rfl:i=k:=by omega
     exact c ⟨h0,.inl (by omega)⟩
   ·refine .inr ⟨m,e,by omega,hm0,fun i hi h0=>?_⟩
    rcases Nat.lt_or_ge i k with q | q
    ·exact h i q h0
    ·obtain rfl:i=k:=by omega
     refine ⟨?_,fun q=>by omega⟩
     refine Int.not_lt.1 fun q=>c ⟨h0,.inr ?_⟩
     rw [e,Int.toNat_natCast];exact q
theorem btN_best (L:List DPlace):∀ k,k≤L.length→isBest L (fun i=>L.length - k≤i∧i < L.length) (btN L k)
 | 0,_=>.inl ⟨rfl,fun i hi=>by omega⟩
 | k+1,hk=>by
  have ih:=btN_best L k (by omega)
  unfold btN
  split
  ·rename_i c
   refine .inr ⟨L.length - 1 - k,rfl,⟨by omega,by omega⟩,c.1,fun i hi h0=>?_⟩
   rcases Nat.lt_or_ge (L.length - 1 - k) i with q | q
   ·rcases ih with ⟨e,h⟩ | ⟨m,e,hm,hm0,h⟩
    ·exact absurd h0 (h i ⟨by omega,hi.2⟩)
    ·have h1:=h i ⟨by omega,hi.2⟩ h0
     rw [e] at c
     rcases c.2 with c2 | c2
     ·omega
     ·rw [Int.toNat_natCast] at c2;exact ⟨by omega,fun q=>by omega⟩
   ·obtain rfl:i=L.length - 1 - k:=by omega
    exact ⟨Int.le_refl _,fun q=>by omega⟩
  ·rename_i c
   rcases ih with ⟨e,h⟩ | ⟨m,e,hm,hm0,h⟩
   ·refine .inl ⟨e,fun i hi h0=>?_⟩
    rcases Nat.lt_or_ge (L.length - 1 - k) i with q | q
    ·exact h i ⟨by omega,hi.2⟩ h0
    ·obtain rfl:i=L.length - 1 - k:=by omega
     exact c ⟨h0,.inl (by omega)⟩
   ·refine .inr ⟨m,e,⟨by omega,hm.2⟩,hm0,fun i hi h0=>?_⟩
    rcases Nat.lt_or_ge (L.length - 1 - k) i with q | q
    ·exact h i ⟨by omega,hi.2⟩ h0
    ·obtain rfl:i=L.length - 1 - k:=by omega
     have c1:(L.getD m dPlace).2.2.2 < (L.getD (L.length - 1 - k) dPlace).2.2.2:=by
      refine Int.not_le.1 fun q=>c ⟨h0,.inr ?_⟩
      rw [e,Int.toNat_natCast];exact q
     exact ⟨by omega,fun _=>c1⟩
theorem bt_at (L:List DPlace):btN L L.length=atN L L.length:=by
 have h:=btN_best L L.length (Nat.le_refl _)
 refine h.same ?_
 have h2:=atN_best L L.length
 have e:(fun i=>L.length - L.length≤i∧i < L.length)=fun i=>i < L.length:=by
  funext i;exact propext ⟨fun q=>q.2,fun q=>⟨by omega,q⟩⟩
 rw [e];exact h2
theorem atN_rng (L:List DPlace) (k:Nat):-1≤atN L k∧atN L k < k:=by
 rcases atN_best L k with ⟨e,_⟩ | ⟨m,e,hm,_⟩ <;> omega
theorem btN_rng (L:List DPlace) {k:Nat} (hk:k≤L.length):-1≤btN L k∧btN L k < L.length:=by
 rcases btN_best L k hk with ⟨e,_⟩ | ⟨m,e,hm,_⟩ <;> omega
def planI (w:DWorld) (p:DPlan) (r:Int) (x:DPlace):DPlan:=(makeF w p.1 (stopsI p.2.1 r x.1 x.2.1)).1
def bestN (w:DWorld) (p:DPlan) (r:Int) (L:List DPlace) (k:Nat):DPlan:=if atN L k < 0 then noPlan else planI w p r (L.getD (atN L k).toNat dPlace)
def namedI (ss:List DStop) (r:Int):Bool:=ss.any fun s=>decide (s.1=r)
def errI (w:DWorld) (p:DPlan) (r:Int):Int :=
 if rightP w=false∨checkP w p≠0∨r < 0∨(w.2.2.2.1.length:Int)≤r∨namedI p.2.1 r=true then 1 else 0
def bestF (w:DWorld) (p:DPlan) (r:Int):DPlan × Int × Int × List DPlace × Int :=
 if errI w p r≠0 then (noPlan,0,0,[],errI w p r)
 else if atN (linesI w p r) (linesI w p r).length < 0 then (noPlan,0,0,linesI w p r,4)
 else (planI w p r ((linesI w p r).getD (atN (linesI w p r) (linesI w p r).length).toNat dPlace),((linesI w p r).getD (atN (linesI w p r) (linesI w p r).length).toNat dPlace).1,((linesI w p r).getD (atN (linesI w p r) (linesI w p r).length).toNat dPlace).2.1,linesI w p r,0)
def checkI (w:DWorld) (p:DPlan) (r:Int) (got:DPlan) (l:List DPlace):Int :=
 if (bestF w p r).2.2.2.2≠0∧(bestF w p r).2.2.2.2≠4 then (bestF w p r).2.2.2.2 else if (bestF w p r).1=got∧(bestF w p r).2.2.2.1=l then 0 else 23
theorem insF_len {α:Type} (l:List α) {k:Nat} (hk:k≤l.length) (x:α):(insF l k [x]).length=l.length+1:=by
 unfold insF
 simp only [List.length_append,List.length_take,List.length_drop,List.length_cons,List.length_nil]
 omega
theorem stopsI_len (ss:List DStop) (r a b:Int):(stopsI ss r a b).length≤ss.length+2:=by
 unfold stopsI
 split
 ·exact Nat.zero_le _
 ·rename_i c
  rw [insF_len _ (by rw [insF_len _ (by omega)];omega),insF_len _ (by omega)]
  exact Nat.le_refl _
end T
end
section
open Go.RowKit Go.IntWalk
namespace T
def entKs20:Ent:=⟨76,.cons (.st (.cons (.sl (.st (.cons (.int .i64) (.int .i64)))) (.cons (.sl (.st (.cons (.int .i64) (.int .i64)))) (.sl (.st (.cons (.int .i64) (.cons (.int .i64) (.int .i64)))))))) (.cons (.sl (.int .i64)) .nil),.bool,false,none,fun x=>rightC x.1=true,fun x=>keeps20 x.1 x.2.1⟩
def csKs2:List Ent:=[entLs19,entHs19,entRun16,entKp16] theorem hcsKs2 (f:FuncId):findEnt csKs2 f=findEnt [entLs19,entHs19,entRun16,entKp16] f:=rfl
theorem conKs20:Con Tryz.prog entKs20:=by
 refine con_is (C:=csKs2) x76 (by kernel_rfl) (by simp [csKs2,conLs19,conHs19,conRun16,conKp16]) fun x hx hf=>?_
 obtain ⟨⟨(W:List DWin),(L:List DLeg),(R:List DRide)⟩,(g:List Int),_⟩:=x
 replace hx:rightC (W,L,R)=true:=hx
 have hlen:=(rightC_iff.1 hx).1
 dsimp only at hlen
 have hLl:L.length≤1000:=by omega
 have hlo:(lowsF L).length=L.length:=lows_len L
 have hhi:(highsF L).length=L.length:=highs_len L
 have hLi:(L.length:Int)≤1000:=by omega
 have e0:cutF (W,L,R) g (lowsF L) (highsF L) 0=keepsF (W,L,R) (rnF (W,L,R) g (highsF L)).1:=by unfold cutF;rw [List.take_zero,List.drop_zero,List.nil_append]
 have e1:cutF (W,L,R) g (lowsF L) (highsF L) L.length=keepsF (W,L,R) (rnF (W,L,R) g (lowsF L)).1:=by unfold cutF;rw [List.take_of_length_le (by omega),List.drop_of_length_le (by omega),List.append_nil]
 dsimp only [entKs20,x76,Z12,Z3,Za,Zb,Zc,Zd,Zg];simp only [↓hcsKs2,entLs19,entHs19,entRun16,entKp16,undef,hLl,hlo,hhi,go_sem,YA,YS,YM,YL,YE,YD,YB,YN,YR,reduceIte,reduceCtorEq,↓reduceIte]
 try simp only [hLl,hlo,hhi,td,reduceCtorEq]
 have hz:keeps20 (W,L,R) g=((keepsF (W,L,R) (rnF (W,L,R) g (highsF L)).1 && keepsF (W,L,R) (rnF (W,L,R) g (lowsF L)).1) && R.all fun r=>cutF (W,L,R) g (lowsF L) (highsF L) r.1.toNat):=by rw [← e0,← e1];rfl
 refine ⟨fun h=>?_,fun h=>?_⟩
 ·rw [hz]
  rcases h with h | h
  ·rw [h,Bool.and_false];rfl
  ·rw [h];rfl
 rw [h.1,h.2,Bool.true_and,Bool.true_and] at hz
 refine XW_for 1000 x76_0d [0] Nat (fun i=>[(11,.val (.int .i64) (i:Int))]) (fun _=>[]) (fun i=>i≤R.length∧∀ k,k < i→cutF (W,L,R) g (lowsF L) (highsF L) (R.getD k (0,0,0)).1.toNat=true) (fun i=>R.length - i) 0 ?_ ?_ ?_
 ·dsimp only [x76_0d];simp only [go_sem,YA,YS,YM,YL,YE,YD,YB,YN,YR,reduceIte,reduceCtorEq,↓reduceIte];try trivial
 ·exact ⟨Nat.zero_le _,fun k hk=>absurd hk (Nat.not_lt_zero _)⟩
 rintro i ⟨hi,hm⟩
 by_cases hil:i < R.length
 ·have w2:IntKind.i64.wrap ((i:Int)+1)=((i+1:Nat):Int):=i64_in _ (by omega)
  have hrd:=right_ride hx (k:=i) hil
  have hall:cutF (W,L,R) g (lowsF L) (highsF L) (R.getD i (0,0,0)).1.toNat=false→keeps20 (W,L,R) g=false:=fun h=>by
   rw [hz,List.all_eq_false]
   exact ⟨_,getD_mem2 (d:=(0,0,0)) hil,by rw [h];simp⟩
  dsimp only at hrd
  generalize hrr:R.getD i (0,0,0)=rr at hrd hall
  obtain ⟨r1,r2,r3⟩:=rr
  dsimp only at hrd hall
  obtain ⟨r1,rfl⟩:∃ z:Nat,r1=z:=⟨r1.toNat,by omega⟩
  rw [Int.toNat_natCast] at hall
  have hr2:(r1:Int)≤(L.length:Int):=by omega
  have hr3:r1≤L.length:=by omega
  have ht:(highsF L).take L.length=highsF L:=List.take_of_length_le (by omega)
  dsimp only [x76_0,x76_0d,Z1,Z10,Z12,Z5,Za,Zb,Zc,Zd,Zf,Zg];simp only [↓hcsKs2,entLs19,entHs19,entRun16,entKp16,undef,hil,w2,hrr,hLl,hlo,hhi,hr2,hr3,ht,Int.toNat_natCast,go_sem,YA,YS,YM,YL,YE,YD,YB,YN,YR,reduceIte,reduceCtorEq,↓reduceIte]
  try simp only [hil,w2,hrr,hLl,hlo,hhi,hr2,hr3,ht,Int.toNat_natCast,td,reduceCtorEq]
  have l1:((lowsF L).take r1).length≤1000:=by rw [List.length_take];omega
  have l2:((highsF L).drop r1).length≤1000:=by rw [List.length_drop];omega
  refine ⟨⟨Int.le_refl _,by omega,Int.le_refl _,by omega⟩,fun h=>?_,fun h=>⟨i+1,by omega,⟨by omega,fun k hk=>?_⟩,rfl⟩⟩
  ·exact (hall h).symm
  ·rcases Nat.lt_or_ge k i with q | q
   ·exact hm k q
   ·rw [show k=i by omega,hrr]
    exact h
 ·obtain rfl:i=R.length:=by omega
  have hz2:keeps20 (W,L,R) g=true:=by
   rw [hz,List.all_eq_true]
   intro r hrm
   obtain ⟨k,hk,rfl⟩:=List.getElem_of_mem hrm
   have h1:=hm k hk
   have:R.getD k (0,0,0)=R[k]:=by simp [List.getD,hk]
   rw [this] at h1
   exact h1
  dsimp only [x76_0,x76_0d,Z1,Z10,Z12,Z5,Za,Zb,Zc,Zd,Zf,Zg];simp only [↓hcsKs2,entLs19,entHs19,entRun16,entKp16,undef,hil,hz2,go_sem,YA,YS,YM,YL,YE,YD,YB,YN,YR,reduceIte,reduceCtorEq,↓reduceIte]
  try simp only [hil,hz2,td,reduceCtorEq]
end T
end
section
open Go.RowKit Go.IntWalk
namespace T
def i3 (n a b:Int):Bool:=decide (a≤n∧n≤b)
def entIn20:Ent:=⟨67,.cons (.int .i64) (.cons (.int .i64) (.cons (.int .i64) .nil)),.bool,false,none,fun _=>True,fun x=>i3 x.1 x.2.1 x.2.2.1⟩
def csIn20:List Ent:=[] theorem hcsIn20 (f:FuncId):findEnt csIn20 f=findEnt [] f:=rfl
theorem conIn20:Con Tryz.prog entIn20:=by
 refine con_is (C:=csIn20) x67 (by kernel_rfl) (by simp [csIn20]) fun x hx hf=>?_
 obtain ⟨(n:Int),(a:Int),(b:Int),_⟩:=x
 dsimp only [entIn20,x67,Za];simp only [↓hcsIn20,go_sem,YA,YS,YM,YL,YE,YD,YB,YN,YR,reduceIte,reduceCtorEq,↓reduceIte];try simp only [td,reduceCtorEq]
 unfold i3
 rw [Bool.eq_iff_iff]
 simp
def entTi20:Ent:=⟨68,.cons (.int .i64) .nil,.bool,false,none,fun _=>True,fun x=>i3 x.1 0 1048576⟩
def csTi20:List Ent:=[entIn20] theorem hcsTi20 (f:FuncId):findEnt csTi20 f=findEnt [entIn20] f:=rfl
theorem conTi20:Con Tryz.prog entTi20:=by
 refine con_is (C:=csTi20) x68 (by kernel_rfl) (by simp [csTi20,conIn20]) fun x hx hf=>?_
 obtain ⟨(n:Int),_⟩:=x
 dsimp only [entTi20,x68,Zb];simp only [↓hcsTi20,entIn20,go_sem,YA,YS,YM,YL,YE,YD,YB,YN,YR,reduceIte,reduceCtorEq,↓reduceIte];try simp only [td,reduceCtorEq]
def entPs20:Ent:=⟨69,.cons (.int .i64) (.cons (.int .i64) (.cons (.int .i64) .nil)),.bool,false,none,fun _=>True,fun x=>i3 x.1 0 60 && i3 x.2.1 0 60 && i3 x.2.2.1 0 60⟩
def csPs20:List Ent:=[entIn20] theorem hcsPs20 (f:FuncId):findEnt csPs20 f=findEnt [entIn20] f:=rfl
theorem conPs20:Con Tryz.prog entPs20:=by
 refine con_is (C:=csPs20) x69 (by kernel_rfl) (by simp [csPs20,conIn20]) fun x hx hf=>?_
 obtain ⟨(a:Int),(b:Int),(c:Int),_⟩:=x
 dsimp only [entPs20,x69,Za,Zb];simp only [↓hcsPs20,entIn20,go_sem,YA,YS,YM,YL,YE,YD,YB,YN,YR,reduceIte,reduceCtorEq,↓reduceIte];try simp only [td,reduceCtorEq]
theorem carB_iff {m:Int} {c:DCar}:carB m c=true ↔ (0≤c.2.1∧c.2.1≤m)∧((0≤c.2.2.1∧c.2.2.1≤1048576)∧0≤c.2.2.2.1∧c.2.2.2.1≤1048576)∧c.2.2.1≤c.2.2.2.1∧(0≤c.2.2.2.2.1∧c.2.2.2.2.1≤60)∧(0≤c.2.2.2.2.2.1∧c.2.2.2.2.2.1≤60)∧0≤c.2.2.2.2.2.2.1∧c.2.2.2.2.2.2.1≤60:=by
 unfold carB allIn
 simp
theorem reqB_iff {m:Int} {q:DReq}:reqB m q=true ↔ (((0≤q.2.2.2.1∧q.2.2.2.1≤1048576)∧(0≤q.2.2.2.2.1∧q.2.2.2.2.1≤1048576)∧(0≤q.2.2.2.2.2.1∧q.2.2.2.2.2.1≤1048576)∧0≤q.2.2.2.2.2.2.1∧q.2.2.2.2.2.2.1≤1048576)∧q.2.2.2.1≤q.2.2.2.2.1)∧(0≤q.1∧q.1≤3999)∧((0≤q.2.1∧q.2.1≤m)∧0≤q.2.2.1∧q.2.2.1≤m)∧(0≤q.2.2.2.2.2.2.2.1∧q.2.2.2.2.2.2.2.1≤60)∧(0≤q.2.2.2.2.2.2.2.2.1∧q.2.2.2.2.2.2.2.2.1≤60)∧0≤q.2.2.2.2.2.2.2.2.2∧q.2.2.2.2.2.2.2.2.2≤60:=by
 unfold reqB allIn
 simp
theorem prB_iff {p:DPair}:prB p=true ↔ (0≤p.1∧p.1≤3999)∧0≤p.2.1∧p.2.1≤3999:=by
 unfold prB allIn
 simp
theorem i3_iff {n a b:Int}:i3 n a b=true ↔ a≤n∧n≤b:=by unfold i3;simp
theorem i3_not {n a b:Int}:i3 n a b=false ↔ ¬ (a≤n∧n≤b):=by unfold i3;simp
def entRR20:Ent:=⟨30,.cons (.st (.cons (.int .i64) (.cons (.sl (.st (.cons (.int .i64) (.cons (.int .i64) (.cons (.sl (.int .i64)) (.sl (.int .i64))))))) (.cons (.sl (.st (.cons (.int .i64) (.cons (.int .i64) (.cons (.int .i64) (.cons (.int .i64) (.cons (.int .i64) (.cons (.int .i64) (.cons (.int .i64) (.cons (.int .i64) (.int .i64))))))))))) (.cons (.sl (.st (.cons (.int .i64) (.cons (.int .i64) (.cons (.int .i64) (.cons (.int .i64) (.cons (.int .i64) (.cons (.int .i64) (.cons (.int .i64) (.cons (.int .i64) (.cons (.int .i64) (.int .i64)))))))))))) (.cons (.sl (.st (.cons (.int .i64) (.cons (.int .i64) .bool)))) (.st (.cons (.int .i64) (.cons (.int .i64) (.int .i64)))))))))) .nil,.bool,false,none,fun _=>True,fun x=>rightP x.1⟩
def csR20:List Ent:=[entIn20,entTi20,entPs20,entRRoad,entRi19] theorem hcsR20 (f:FuncId):findEnt csR20 f=findEnt [entIn20,entTi20,entPs20,entRRoad,entRi19] f:=rfl
set_option maxHeartbeats 4000000 in
theorem conRR20:Con Tryz.prog entRR20:=by
 refine con_is (C:=csR20) x30 (by kernel_rfl) (by simp [csR20,conIn20,conTi20,conPs20,conRRoad,conRi19]) fun x hx hf=>?_
 obtain ⟨⟨(N:Int),(A:List DArc),(C:List DCar),(Q:List DReq),(P:List DPair),(S1:Int),(S2:Int),(S3:Int)⟩,_⟩:=x
 dsimp only [entRR20,x30,Z1,Z17,Z21,Z22,Z5,Z7,Za,Zb,Zc,Zd,Ze,Zg];simp only [↓hcsR20,entIn20,entTi20,entPs20,entRRoad,entRi19,go_sem,YA,YS,YM,YL,YE,YD,YB,YN,YR,reduceIte,reduceCtorEq,↓reduceIte];try simp only [td,reduceCtorEq]
 have hno:(rightP (N,A,C,Q,P,S1,S2,S3)=true→False)→false=rightP (N,A,C,Q,P,S1,S2,S3):=fun h=>by
  symm
  rw [← Bool.not_eq_true]
  exact h
 refine ⟨fun h=>hno fun q=>?_,?_⟩
 ·obtain ⟨q1,q2,_⟩:=rightP_iff.1 q
  dsimp only at q1 q2
  rcases h with ((h | h) | h) | h
  ·rw [h] at q1;cases q1
  ·omega
  ·omega
  ·omega
 rintro ⟨⟨⟨h1,h2⟩,h3⟩,h4⟩
 have hn:=rightR_n h1
 have w:IntKind.i64.wrap (N - 1)=N - 1:=i64_in _ (by omega)
 refine XW_for 1000 x30_0d [0] Nat (fun j=>[(3,.val (.int .i64) (j:Int))]) (fun _=>[]) (fun j=>j≤C.length∧∀ k,k < j→carB (N - 1) (C.getD k (0,0,0,0,0,0,0,0,0))=true) (fun j=>C.length - j) 0 ?_ ?_ ?_
 ·dsimp only [x30_0d]
  simp only [go_sem,YA,YS,YM,YL,YE,YD,YB,YN,YR,reduceIte,reduceCtorEq,↓reduceIte]
  try trivial
 ·exact ⟨Nat.zero_le _,fun k hk=>absurd hk (Nat.not_lt_zero _)⟩
 rintro j ⟨hj,hnn⟩
 by_cases hj':j < C.length
 ·have w2:IntKind.i64.wrap ((j:Int)+1)=((j+1:Nat):Int):=i64_in _ (by omega)
  have hji:(j:Int) < (C.length:Int):=by omega
  have hmem:=getD_mem2 (d:=((0,0,0,0,0,0,0,0,0):DCar)) hj'
  generalize hS:C.getD j (0,0,0,0,0,0,0,0,0)=x at hmem
  obtain ⟨o,n,r,e,s,c,b,g,f⟩:=x
  dsimp only [x30_0,x30_0d,Z1,Z18,Z22,Za,Zb,Zc,Zd,Ze,Zg]
  simp only [↓hcsR20,entIn20,entTi20,entPs20,entRRoad,entRi19,hj',hji,hS,w,w2,go_sem,YA,YS,YM,YL,YE,YD,YB,YN,YR,reduceIte,reduceCtorEq,↓reduceIte]
  try simp only [hj',hji,hS,w,w2,i3_iff,i3_not,td,reduceCtorEq]
  refine ⟨fun h=>hno fun q=>?_,fun h=>⟨j+1,by omega,⟨hj',fun k hk=>?_⟩,rfl⟩⟩
  ·have q2:=carB_iff.1 ((rightP_iff.1 q).2.2.1 _ hmem)
   dsimp only at q2
   omega
  ·by_cases c:k=j
   ·subst c
    rw [hS,carB_iff]
    dsimp only
    omega
   ·exact hnn k (by omega)
 have hC2:∀ x ∈ C,carB (N - 1) x=true:=fun x hx=>by
  obtain ⟨k,hk,rfl⟩:=List.getElem_of_mem hx
  have:=hnn k (by omega)
  rwa [show C.getD k (0,0,0,0,0,0,0,0,0)=C[k] by simp [List.getD,hk]] at this
 have hji:¬ (j:Int) < (C.length:Int):=by omega
 dsimp only [x30_0,x30_0d,Z1,Z18,Z22,Za,Zb,Zc,Zd,Ze,Zg]
 simp only [↓hcsR20,entIn20,entTi20,entPs20,entRRoad,entRi19,hj',hji,go_sem,YA,YS,YM,YL,YE,YD,YB,YN,YR,reduceIte,reduceCtorEq,↓reduceIte]
 try simp only [hj',hji,td,reduceCtorEq]
 refine XW_for 2000 x30_1d [0] Nat (fun j=>[(5,.val (.int .i64) (j:Int))]) (fun _=>[]) (fun j=>j≤Q.length∧∀ k,k < j→reqB (N - 1) (Q.getD k dReq)=true) (fun j=>Q.length - j) 0 ?_ ?_ ?_
 ·dsimp only [x30_1d]
  simp only [go_sem,YA,YS,YM,YL,YE,YD,YB,YN,YR,reduceIte,reduceCtorEq,↓reduceIte]
  try trivial
 ·exact ⟨Nat.zero_le _,fun k hk=>absurd hk (Nat.not_lt_zero _)⟩
 rintro j ⟨hj,hnn⟩
 by_cases hj':j < Q.length
 ·have w2:IntKind.i64.wrap ((j:Int)+1)=((j+1:Nat):Int):=i64_in _ (by omega)
  have hji:(j:Int) < (Q.length:Int):=by omega
  have hmem:=getD_mem2 (d:=dReq) hj'
  generalize hS:Q.getD j dReq=x at hmem
  have hS':Q.getD j (0,0,0,0,0,0,0,0,0,0)=x:=hS
  obtain ⟨m,f,t,e,l,d,r,s,c,b⟩:=x
  dsimp only [x30_1,x30_1d,Z1,Z6,Z7,Za,Zb,Zc,Zd,Ze,Zg]
  simp only [↓hcsR20,entIn20,entTi20,entPs20,entRRoad,entRi19,hj',hji,hS',w,w2,go_sem,YA,YS,YM,YL,YE,YD,YB,YN,YR,reduceIte,reduceCtorEq,↓reduceIte]
  try simp only [hj',hji,hS',w,w2,i3_iff,i3_not,td,reduceCtorEq]
  refine ⟨fun h=>hno fun q=>?_,fun h=>⟨j+1,by omega,⟨hj',fun k hk=>?_⟩,rfl⟩⟩
  ·have q2:=reqB_iff.1 ((rightP_iff.1 q).2.2.2.1 _ hmem)
   dsimp only at q2
   omega
  ·by_cases c:k=j
   ·subst c
    rw [hS,reqB_iff]
    dsimp only
    omega
   ·exact hnn k (by omega)
 have hQ2:∀ x ∈ Q,reqB (N - 1) x=true:=fun x hx=>by
  obtain ⟨k,hk,rfl⟩:=List.getElem_of_mem hx
  have:=hnn k (by omega)
  rwa [show Q.getD k dReq=Q[k] by simp [List.getD,hk]] at this
 have hji:¬ (j:Int) < (Q.length:Int):=by omega
 dsimp only [x30_1,x30_1d,Z1,Z6,Z7,Za,Zb,Zc,Zd,Ze,Zg]
 simp only [↓hcsR20,entIn20,entTi20,entPs20,entRRoad,entRi19,hj',hji,go_sem,YA,YS,YM,YL,YE,YD,YB,YN,YR,reduceIte,reduceCtorEq,↓reduceIte]
 try simp only [hj',hji,td,reduceCtorEq]
 refine XW_for 3000 x30_2d [0] Nat (fun j=>[(7,.val (.int .i64) (j:Int))]) (fun _=>[]) (fun j=>j≤P.length∧∀ k,k < j→prB (P.getD k (0,0,false))=true) (fun j=>P.length - j) 0 ?_ ?_ ?_
 ·dsimp only [x30_2d]
  simp only [go_sem,YA,YS,YM,YL,YE,YD,YB,YN,YR,reduceIte,reduceCtorEq,↓reduceIte]
  try trivial
 ·exact ⟨Nat.zero_le _,fun k hk=>absurd hk (Nat.not_lt_zero _)⟩
 rintro j ⟨hj,hnn⟩
 by_cases hj':j < P.length
 ·have w2:IntKind.i64.wrap ((j:Int)+1)=((j+1:Nat):Int):=i64_in _ (by omega)
  have hji:(j:Int) < (P.length:Int):=by omega
  have hmem:=getD_mem2 (d:=((0,0,false):DPair)) hj'
  generalize hS:P.getD j (0,0,false)=x at hmem
  obtain ⟨a,b,m⟩:=x
  dsimp only [x30_2,x30_2d,Z1,Z14,Z21,Za,Zb,Zc,Zd,Ze]
  simp only [↓hcsR20,entIn20,entTi20,entPs20,entRRoad,entRi19,hj',hji,hS,w2,go_sem,YA,YS,YM,YL,YE,YD,YB,YN,YR,reduceIte,reduceCtorEq,↓reduceIte]
  try simp only [hj',hji,hS,w2,i3_iff,i3_not,td,reduceCtorEq]
  refine ⟨fun h=>hno fun q=>?_,fun h=>⟨j+1,by omega,⟨hj',fun k hk=>?_⟩,rfl⟩⟩
  ·have q2:=prB_iff.1 ((rightP_iff.1 q).2.2.2.2.1 _ hmem)
   dsimp only at q2
   omega
  ·by_cases c:k=j
   ·subst c
    rw [hS,prB_iff]
    dsimp only
    omega
   ·exact hnn k (by omega)
 have hP2:∀ x ∈ P,prB x=true:=fun x hx=>by
  obtain ⟨k,hk,rfl⟩:=List.getElem_of_mem hx
  have:=hnn k (by omega)
  rwa [show P.getD k (0,0,false)=P[k] by simp [List.getD,hk]] at this
 have hji:¬ (j:Int) < (P.length:Int):=by omega
 dsimp only [x30_2,x30_2d,Z1,Z14,Z21,Za,Zb,Zc,Zd,Ze]
 simp only [↓hcsR20,entIn20,entTi20,entPs20,entRRoad,entRi19,hj',hji,go_sem,YA,YS,YM,YL,YE,YD,YB,YN,YR,reduceIte,reduceCtorEq,↓reduceIte]
 try simp only [hj',hji,td,reduceCtorEq]
 rw [Bool.eq_iff_iff,rightP_iff]
 exact ⟨fun h=>⟨h1,⟨by dsimp only;omega,by dsimp only;omega,by dsimp only;omega⟩,hC2,hQ2,hP2,h⟩,fun h=>h.2.2.2.2.2⟩
end T
end
section
open Go.RowKit Go.IntWalk
namespace T
def entTimeR:Ent:=⟨201,.cons (.int .i64) .nil,.bool,false,none,fun _=>True,fun x=>timeB x.1⟩
def csTq:List Ent:=[] theorem hcsTq (f:FuncId):findEnt csTq f=findEnt [] f:=rfl
theorem conTimeR:Con Tryz.prog entTimeR:=by
 refine con_is (C:=csTq) x201 (by kernel_rfl) (by simp [csTq]) fun x hx hf=>?_
 obtain ⟨(t:Int),_⟩:=x
 dsimp only [entTimeR,x201,Za];simp only [↓hcsTq,go_sem,YA,YS,YM,YL,YE,YD,YB,YN,YR,reduceIte,reduceCtorEq,↓reduceIte]
 simp only [td,reduceCtorEq]
 unfold timeB
 rw [Bool.eq_iff_iff,decide_eq_true_iff]
 simp [isTime]
def entNone:Ent:=⟨202,.cons (.int .i64) .nil,(.sl (.st (.cons (.int .i64) (.int .i64)))),false,some 219,fun x=>0≤x.1∧x.1≤2000,fun x=>List.replicate x.1.toNat ((-1:Int),(-1:Int))⟩
def csNo:List Ent:=[] theorem hcsNo (f:FuncId):findEnt csNo f=findEnt [] f:=rfl
theorem conNone:Con Tryz.prog entNone:=by
 refine con_is (C:=csNo) x202 (by kernel_rfl) (by simp [csNo]) fun x hx hf=>?_
 obtain ⟨(n:Int),_⟩:=x
 dsimp only [entNone,x202,Z2,Zb,Zg];simp only [↓hcsNo,go_sem,YA,YS,YM,YL,YE,YD,YB,YN,YR,reduceIte,reduceCtorEq,↓reduceIte]
 try simp only [td,reduceCtorEq]
 have h0:(0:Int)≤n∧n≤2000:=hx
 obtain ⟨n,rfl⟩:∃ m:Nat,n=m:=⟨n.toNat,by omega⟩
 refine XW_for 1000 x202_0d [0] Nat (fun j=>[(3,.own 1),(4,.val (.int .i64) (j:Int))]) (fun j=>[(1,.row 219 (.st (.cons (.int .i64) (.int .i64))) (List.replicate j ((-1:Int),(-1:Int))))]) (fun j=>j≤n) (fun j=>n - j) 0 ?_ ?_ ?_
 ·dsimp only [x202_0d]
  simp only [go_sem,YA,YS,YM,YL,YE,YD,YB,YN,YR,reduceIte,reduceCtorEq,↓reduceIte]
  exact rfl
 ·exact Nat.zero_le n
 ·intro j hj
  have w2:IntKind.i64.wrap ((j:Int)+1)=((j+1:Nat):Int):=i64_in _ (by omega)
  dsimp only [x202_0,x202_0d,Z1,Z2,Za]
  simp only [w2,↓hcsNo,go_sem,YA,YS,YM,YL,YE,YD,YB,YN,YR,reduceIte,reduceCtorEq,↓reduceIte]
  simp only [td,reduceCtorEq]
  refine ⟨fun h=>⟨?_,j+1,by omega,by omega,rfl,(List.replicate_succ' ..).symm⟩,fun h=>?_⟩
  ·rw [List.length_replicate];omega
  ·obtain rfl:j=n:=by omega
   rfl
end T
end
section
open Go.RowKit Go.IntWalk
namespace T
def entREarly:Ent:=⟨181,.cons (.int .i64) (.cons (.sl (.st (.cons (.int .i64) (.cons (.int .i64) (.cons (.sl (.int .i64)) (.sl (.int .i64))))))) (.cons (.int .i64) (.cons (.int .i64) (.cons .bool .nil)))),.cons (.sl (.st (.cons (.int .i64) (.int .i64)))) (.cons (.int .i64) .nil),true,none,fun _=>True,fun x=>earlyF x.1 x.2.1 x.2.2.1 x.2.2.2.1 x.2.2.2.2.1⟩
def csRe:List Ent:=[entRRoad,entTimeR,entNone,entRPass] theorem hcsRe (f:FuncId):findEnt csRe f=findEnt [entRRoad,entTimeR,entNone,entRPass] f:=rfl
theorem conREarly:Con Tryz.prog entREarly:=by
 refine con_is (C:=csRe) x181 (by kernel_rfl) (by simp [csRe,conRRoad,conTimeR,conNone,conRPass]) fun x hx hf=>?_
 obtain ⟨(n:Int),(A:List DArc),(src:Int),(start:Int),(hi:Bool),_⟩:=x
 dsimp only [entREarly,x181,Z1,Z2,Za,Zb,Zc,Ze,Zg];simp only [↓hcsRe,entRRoad,entTimeR,entNone,entRPass,go_sem,YA,YS,YM,YL,YE,YD,YB,YN,YR,reduceIte,reduceCtorEq,↓reduceIte]
 simp only [td,reduceCtorEq];try dsimp only [Ty.den]
 refine ⟨fun h=>?_,fun h=>?_⟩
 ·unfold earlyF
  rw [if_pos]
  cases h1:rightR n A with
  | false=>rfl
  | true =>
   rw [Bool.true_and,Bool.and_eq_false_iff,Bool.and_eq_false_iff,decide_eq_false_iff_not,decide_eq_false_iff_not]
   rcases h with ((h | h) | h) | h
   ·rw [h1] at h;cases h
   ·exact .inl (by omega)
   ·exact .inr (.inl (by omega))
   ·exact .inr (.inr h)
 obtain ⟨⟨n1,n2⟩,hAl,hall⟩:=rightR_all h.1.1.1
 obtain ⟨n,rfl⟩:∃ m:Nat,n=m:=⟨n.toNat,by omega⟩
 obtain ⟨src,rfl⟩:∃ m:Nat,src=m:=⟨src.toNat,by omega⟩
 refine ⟨by omega,by omega,⟨⟨by omega,by rw [List.length_replicate];omega⟩,by rw [List.length_replicate];omega⟩,?_⟩
 have e0:(List.replicate n ((-1:Int),(-1:Int))).getD src (0,0)=(-1,-1):=by
  rw [List.getD_eq_getElem?_getD,List.getElem?_replicate,if_pos (by omega)];rfl
 simp only [Int.toNat_natCast,e0]
 refine XW_for 1000 x181_0d [21,24] (List DLab × List Bool) (fun _=>[]) (fun s=>[(21,.row 219 (.st (.cons (.int .i64) (.int .i64))) s.1),(24,.row 4 .bool s.2)])
  (fun s=>s.1.length=n∧s.2.length=n∧runF false (moveE A hi) A.length (s.2.count false) s.1 s.2=searchF false (moveE A hi) A.length n src start) (fun s=>s.2.count false) ((List.replicate n ((-1:Int),(-1:Int))).set src (start,-1),List.replicate n false) ?_ ?_ ?_
 ·dsimp only [x181_0d]
  simp only [go_sem,YA,YS,YM,YL,YE,YD,YB,YN,YR,reduceIte,reduceCtorEq,↓reduceIte]
 ·exact ⟨by simp,by simp,by simp [searchF]⟩
 ·rintro ⟨L,S⟩ ⟨hL,hS,hrun⟩
  dsimp only at hL hS hrun
  dsimp only [x181_0,x181_0d,Za,Zb,Zg]
  simp only [↓hcsRe,entRRoad,entTimeR,entNone,entRPass,go_sem,YA,YS,YM,YL,YE,YD,YB,YN,YR,reduceIte,reduceCtorEq,↓reduceIte]
  try simp only [td,reduceCtorEq]
  refine XW_for 2000 x181_1d [21,24] Nat (fun j=>[(14,.val (.int .i64) (pickTo false L S j)),(15,.val (.int .i64) (j:Int))]) (fun _=>[]) (fun j=>j≤n) (fun j=>n - j) 0 ?_ ?_ ?_
  ·dsimp only [x181_1d]
   simp only [go_sem,YA,YS,YM,YL,YE,YD,YB,YN,YR,reduceIte,reduceCtorEq,↓reduceIte]
   exact ⟨rfl,rfl⟩
  ·exact Nat.zero_le n
  ·intro j hj
   dsimp only [x181_1,x181_1d,Z1,Z2,Za,Zc,Zf,Zh]
   simp only [↓hcsRe,entRRoad,entTimeR,entNone,entRPass,go_sem,YA,YS,YM,YL,YE,YD,YB,YN,YR,reduceIte,reduceCtorEq,↓reduceIte]
   try simp only [td,reduceCtorEq]
   have hbd:=pickTo_bd false L S j
   have hpu:=pickTo_un false L S j
   have w2:IntKind.i64.wrap ((j:Int)+1)=((j+1:Nat):Int):=i64_in _ (by omega)
   refine ⟨fun hj'=>⟨⟨by omega,by omega,fun h=>⟨h,by omega⟩,fun h=>⟨h,by omega⟩,fun h=>⟨h,by omega⟩,fun h=>⟨h,by omega⟩,fun h=>⟨h,by rw [if_neg (by omega)];omega⟩,fun h=>⟨h,by rw [if_neg (by omega)];omega⟩,fun h=>⟨h,fun h'=>⟨h,h'⟩⟩⟩,fun h=>⟨j+1,by omega,by omega,?_,w2⟩,fun h=>⟨j+1,by omega,by omega,?_,w2⟩⟩,fun hj'=>?_⟩
   ·have hq:pickTo false L S j < 0∨betterB false (L.getD j (0,0)).1 (L.getD (pickTo false L S j).toNat (0,0)).1=true:=by
     by_cases hp:pickTo false L S j < 0
     ·exact .inl hp
     ·refine .inr ?_
      have h2:=h.2
      rw [if_neg hp] at h2
      unfold betterB
      rw [if_neg (by have:=(hpu (by omega)).2;omega),if_neg (by decide)]
      exact decide_eq_true (by omega)
    rw [pickTo,if_pos ⟨h.1.1,h.1.2,hq⟩]
   ·rw [pickTo,if_neg]
    rintro ⟨h1,h2,h3⟩
    have h4:=h ⟨h1,h2⟩
    rcases h3 with h3 | h3
    ·omega
    ·rw [if_neg (by omega)] at h4
     unfold betterB at h3
     rw [if_neg (by have:=(hpu (by omega)).2;omega),if_neg (by decide)] at h3
     have:=of_decide_eq_true h3
     omega
   have ej:j=L.length:=by omega
   subst ej
   refine ⟨fun hp=>?_,fun hp=>⟨⟨⟨hp,by omega⟩,by omega⟩,?_⟩⟩
   ·rw [← runF_end hp,hrun]
    unfold earlyF
    rw [if_neg]
    ·rfl
    ·rw [h.1.1.1,decide_eq_true h.1.1.2,decide_eq_true h.1.2,h.2];simp
   obtain ⟨u,hu⟩:∃ u:Nat,pickTo false L S L.length=u:=⟨(pickTo false L S L.length).toNat,by omega⟩
   have hgo:=runF_go (E:=moveE A hi) (m:=A.length) (by omega) hu
   have hun:=(pickTo_un false L S L.length hp).1
   rw [hu] at hun
   replace hun:S.getD u false=false:=hun
   rw [hu] at hbd hp ⊢
   clear hu hp hpu
   rw [show (u:Int).toNat=u from rfl]
   refine XW_for 3000 x181_2d [21,24] Nat (fun j=>[(16,.val (.int .i64) (j:Int))]) (fun j=>[(21,.row 219 (.st (.cons (.int .i64) (.int .i64))) (relaxTo false (moveE A hi) (S.set u true) u j L))]) (fun j=>j≤A.length) (fun j=>A.length - j) 0 ?_ ?_ ?_
   ·dsimp only [x181_2d]
    simp only [go_sem,YA,YS,YM,YL,YE,YD,YB,YN,YR,reduceIte,reduceCtorEq,↓reduceIte]
    exact ⟨rfl,rfl⟩
   ·exact Nat.zero_le _
   ·intro j hj
    dsimp only [x181_2,x181_2d,Z1,Z13,Z2,Za,Zb,Zc,Ze,Zf,Zg]
    have hl:=relaxTo_length (late:=false) (E:=moveE A hi) (S:=S.set u true) (u:=u) (L:=L) j
    simp only [↓hcsRe,entRRoad,entTimeR,entNone,entRPass,go_sem,YA,YS,YM,YL,YE,YD,YB,YN,YR,reduceIte,reduceCtorEq,↓reduceIte]
    try simp only [td,reduceCtorEq]
    have w2:IntKind.i64.wrap ((j:Int)+1)=((j+1:Nat):Int):=i64_in _ (by omega)
    have hk:j < A.length→_:=fun h=>hall (A.getD j (0,0,[],[])) (by rw [List.getD_eq_getElem?_getD,List.getElem?_eq_getElem h];exact List.getElem_mem _)
    have e1:((moveE A hi j).1=u→relaxTo false (moveE A hi) (S.set u true) u (j+1) L=reachF false (S.set u true) (relaxTo false (moveE A hi) (S.set u true) u j L) (moveE A hi j).2.1.toNat ((moveE A hi j).2.2 ((relaxTo false (moveE A hi) (S.set u true) u j L).getD u (0,0)).1) j)∧(¬ (moveE A hi j).1=u→relaxTo false (moveE A hi) (S.set u true) u (j+1) L=relaxTo false (moveE A hi) (S.set u true) u j L):=⟨fun h=>if_pos h,fun h=>if_neg h⟩
    dsimp only [moveE] at e1
    have hs:(S.set u true).length=n:=by rw [List.length_set];exact hS
    refine ⟨fun hjl=>?_,fun hjl=>?_⟩
    ·replace hk:=hk hjl
     generalize relaxTo false (moveE A hi) (S.set u true) u j L=R at hl e1 ⊢
     generalize (toArc (A.getD j (0,0,[],[]))).passF hi (R.getD u (0,0)).1=t at e1 ⊢
     generalize (A.getD j (0,0,[],[])).2.1=v at e1 hk ⊢
     have hR:R.length=n:=by omega
     have hv:v.toNat < n:=by omega
     generalize S.set u true=S2 at *
     refine ⟨hjl,⟨hjl,fun h=>⟨h,by omega⟩,fun h=>⟨h,by omega⟩⟩,fun h1=>⟨j+1,by omega,by omega,w2,?_⟩,fun hc=>⟨⟨hjl,by omega⟩,?_,fun h1=>⟨by omega,j+1,by omega,by omega,w2,?_⟩,fun h1=>⟨j+1,by omega,by omega,w2,?_⟩⟩⟩
     ·by_cases hk1:(A.getD j (0,0,[],[])).1=(u:Int)
      ·rw [e1.1 hk1,reachF,if_pos (.inl (h1.resolve_left (fun h2=>h2 hk1)))]
      ·rw [e1.2 hk1]
     ·refine ⟨?_,?_,?_,?_,?_,?_,?_,?_,?_,?_,?_⟩ <;> first | exact fun h=>⟨h,by omega⟩ | exact fun h=>⟨h,fun h'=>⟨h,h'⟩⟩
     ·rw [e1.1 hc.1,reachF,if_neg (by rw [hc.2,h1.1];simp),if_pos]
      rcases h1.2 with (h2 | h2) | h2
      ·left;unfold betterB;rw [if_pos h2]
      ·left;unfold betterB;split
       ·rfl
       ·exact decide_eq_true h2
      ·exact .inr h2
     ·rw [e1.1 hc.1,reachF]
      split
      ·rfl
      ·rename_i h2
       rw [not_or] at h2
       have h3:=h1 (by simpa using h2.2)
       rw [if_neg]
       rintro (h4 | h4)
       ·unfold betterB at h4
        rw [if_neg (by omega),if_neg (by decide)] at h4
        have:=of_decide_eq_true h4
        omega
       ·have:=h3.2 h4.1;omega
    ·have ej:j=A.length:=by omega
     subst ej
     refine ⟨(relaxTo false (moveE A hi) (S.set u true) u A.length L,S.set u true),?_,⟨by rw [relaxTo_length];exact hL,hs,by rw [← hrun,hgo]⟩,rfl,rfl⟩
     have:=count_settle (S:=S) (u:=u) (by omega) hun
     dsimp only
     omega
end T
end
end Go.Proofs.YtjlofnjlhgbmoaaGreat
