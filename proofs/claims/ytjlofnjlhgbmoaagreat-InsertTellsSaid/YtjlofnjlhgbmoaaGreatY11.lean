/- Parts of the proof, merged (by a program): definitions and lemmas for the law; no condition. -/
import Derived.Test.YtjlofnjlhgbmoaaGreatY10
set_option linter.unusedVariables false
set_option linter.unusedSimpArgs false
open Nat renaming reduceAdd → YA, reduceSub → YS, reduceMul → YM, reduceLT → YL, reduceLeDiff → YE, reduceEqDiff → YD, reduceBEq → YB, reduceBNe → YN
open List renaming reduceReplicate → YR
namespace Go.Proofs.YtjlofnjlhgbmoaaGreat
section
open Go.RowKit Go.IntWalk
namespace T
def entRWay:Ent:=⟨182,.cons (.sl (.st (.cons (.int .i64) (.int .i64)))) (.cons (.sl (.st (.cons (.int .i64) (.cons (.int .i64) (.cons (.sl (.int .i64)) (.sl (.int .i64))))))) (.cons (.int .i64) .nil)),(.sl (.int .i64)),false,none,fun x=>List.length (α:=DLab) x.1≤100000,fun x=>wayF x.1 x.2.1 x.2.2.1⟩
def wayR (L:List DLab) (A:List DArc) (to:Int) (out:List Int):List Int:=if to < 0∨L.length≤to∨out=[]∧(L.getD to.toNat (0,0)).1 = -1 then [] else wayGo L A (L.length - out.length) to out
def csRw:List Ent:=[] theorem hcsRw (f:FuncId):findEnt csRw f=findEnt [] f:=rfl
theorem conRWay:Con Tryz.prog entRWay:=by
 refine con_is (C:=csRw) x182 (by kernel_rfl) (by simp [csRw]) fun x hx hf=>?_
 obtain ⟨(L:List DLab),(A:List DArc),(to:Int),_⟩:=x
 dsimp only [entRWay,x182,Z1];simp only [↓hcsRw,go_sem,YA,YS,YM,YL,YE,YD,YB,YN,YR,reduceIte,reduceCtorEq,↓reduceIte]
 try simp only [td,reduceCtorEq]
 try dsimp only [Ty.den]
 have hLl:L.length≤100000:=hx
 have e0:wayF L A to=wayR L A to []:=by unfold wayF wayR;simp
 rw [e0]
 refine XW_for 1000 x182_0d [1] (List Int × Int) (fun s=>[(7,.own 1),(2,.val (.int .i64) s.2)]) (fun s=>[(1,.row 3 (.int .i64) s.1)])
  (fun s=>s.1.length≤L.length∧wayR L A s.2 s.1=wayR L A to []) (fun s=>L.length - s.1.length) ([],to) ?_ ?_ ?_
 ·dsimp only [x182_0d]
  simp only [go_sem,YA,YS,YM,YL,YE,YD,YB,YN,YR,reduceIte,reduceCtorEq,↓reduceIte]
 ·exact ⟨Nat.zero_le _,rfl⟩
 ·rintro ⟨out,to'⟩ ⟨hl,hgo⟩
  dsimp only at hl hgo
  dsimp only [x182_0,x182_0d,Z1,Z13,Z2,Za,Zb,Zc,Zd,Ze,Zg]
  simp only [↓hcsRw,go_sem,YA,YS,YM,YL,YE,YD,YB,YN,YR,reduceIte,reduceCtorEq,↓reduceIte]
  try simp only [td,reduceCtorEq]
  have go:0≤to'∧to' < L.length→(((out.length:Int)=0→¬(L.getD to'.toNat (0,0)).1 = -1))→wayR L A to []=wayGo L A (L.length - out.length) to' out:=by
   intro h1 h2
   rw [← hgo,wayR,if_neg]
   rintro (h3 | h3 | ⟨h3,h4⟩)
   ·omega
   ·omega
   ·exact h2 (by rw [h3];rfl) h4
  refine ⟨fun h=>?_,fun h=>⟨h.1,fun h1=>?_,fun h1=>⟨fun h2=>?_,fun h2=>⟨fun h3=>?_,fun h3=>⟨h3.1,fun h4=>?_,fun h4=>⟨by omega,h3.1,((L.getD to'.toNat (0,0)).2 :: out,(A.getD (L.getD to'.toNat (0,0)).2.toNat (0,0,[],[])).1),?_,⟨?_,?_⟩,rfl,rfl⟩⟩⟩⟩⟩⟩
  ·rw [← hgo,wayR,if_pos]
   rcases h with (h | h) | h
   ·exact .inl h
   ·exact .inr (.inl h)
   ·omega
  ·rw [← hgo,wayR,if_pos (.inr (.inr ⟨List.length_eq_zero_iff.1 (Int.ofNat_inj.1 h1.1),h1.2⟩))]
  ·rw [go h.1 h1]
   cases L.length - out.length <;> rw [wayGo,if_pos h2]
  ·rw [go h.1 h1]
   by_cases c:out.length=L.length
   ·rw [c,Nat.sub_self,wayGo,if_neg h2]
   ·obtain ⟨f,hf⟩:∃ f,L.length - out.length=f+1:=⟨L.length - out.length - 1,by omega⟩
    rw [hf,wayGo,if_neg h2,if_pos]
    rcases h3 with (h3 | h3) | h3
    ·exact .inl h3
    ·exact .inr (.inl h3)
    ·exact absurd h3 c
  ·rw [go h.1 h1]
   obtain ⟨f,hf⟩:∃ f,L.length - out.length=f+1:=⟨L.length - out.length - 1,by omega⟩
   rw [hf,wayGo,if_neg h2,if_pos (.inr (.inr (.inl h4)))]
  ·dsimp only [List.length_cons];omega
  ·dsimp only [List.length_cons];omega
  ·rw [go h.1 h1]
   obtain ⟨f,hf⟩:∃ f,L.length - out.length=f+1:=⟨L.length - out.length - 1,by omega⟩
   dsimp only
   rw [hf,wayGo,if_neg h2,wayR,List.length_cons,show L.length - (out.length+1)=f by omega]
   by_cases c:(A.getD (L.getD to'.toNat (0,0)).2.toNat (0,0,[],[])).1 < 0∨L.length≤(A.getD (L.getD to'.toNat (0,0)).2.toNat (0,0,[],[])).1
   ·rw [if_pos (c.elim .inl (fun c=>.inr (.inl c))),if_pos (c.elim (fun c=>.inr (.inr (.inr (.inl c)))) (fun c=>.inr (.inr (.inr (.inr c)))))]
   ·rw [not_or] at c
    have n1:¬ (L.getD to'.toNat (0,0)).2 < 0:=Int.not_lt.2 h3.1.1
    have n2:¬ (A.length:Int)≤(L.getD to'.toNat (0,0)).2:=Int.not_le.2 h3.1.2
    rw [if_neg (fun q=>q.elim c.1 (fun q=>q.elim c.2 (fun q=>List.cons_ne_nil _ _ q.1))),if_neg (fun q=>q.elim n1 (fun q=>q.elim n2 (fun q=>q.elim (fun q=>q h4) (fun q=>q.elim c.1 c.2))))]
end T
end
section
open Go.RowKit Go.IntWalk
namespace T
theorem low_step (L:List Int) (p:Nat):∀ j,(if L.getD ((p+j) % 24) 0 < lowB L p (j - 1) then L.getD ((p+j) % 24) 0 else lowB L p (j - 1))=lowB L p (j+1 - 1)
 | 0=>by
  show (if L.getD (p % 24) 0 < L.getD (p % 24) 0 then L.getD (p % 24) 0 else L.getD (p % 24) 0)=L.getD (p % 24) 0
  split <;> rfl
 | i+1=>rfl
theorem high_step (L:List Int) (p:Nat):∀ j,(if highB L p (j - 1) < L.getD ((p+j) % 24) 0 then L.getD ((p+j) % 24) 0 else highB L p (j - 1))=highB L p (j+1 - 1)
 | 0=>by
  show (if L.getD (p % 24) 0 < L.getD (p % 24) 0 then L.getD (p % 24) 0 else L.getD (p % 24) 0)=L.getD (p % 24) 0
  split <;> rfl
 | i+1=>rfl
def entBn20:Ent:=⟨183,.cons (.st (.cons (.int .i64) (.cons (.int .i64) (.cons (.sl (.int .i64)) (.sl (.int .i64)))))) (.cons (.int .i64) (.cons (.int .i64) .nil)),.cons (.int .i64) (.cons (.int .i64) .nil),true,none,fun x=>(toArc x.1).rightB=true∧(0≤(x.2.1:Int)∧(x.2.1:Int)≤100000000)∧0≤(x.2.2.1:Int)∧(x.2.2.1:Int)≤100000000,fun x=>((bndF x.1 x.2.1 x.2.2.1).1,(bndF x.1 x.2.1 x.2.2.1).2,())⟩
def csBn2:List Ent:=[] theorem hcsBn2 (f:FuncId):findEnt csBn2 f=findEnt [] f:=rfl
theorem conBn20:Con Tryz.prog entBn20:=by
 refine con_is (C:=csBn2) x183 (by kernel_rfl) (by simp [csBn2]) fun x hx hf=>?_
 obtain ⟨⟨(g:Int),(u:Int),(L:List Int),(H:List Int)⟩,(f:Int),(t:Int),_⟩:=x
 obtain ⟨hr,⟨h1,h2⟩,h3,h4⟩:=hx
 replace hr:(toArc (g,u,L,H)).right:=of_decide_eq_true hr
 replace h1:0≤f:=h1
 replace h2:f≤100000000:=h2
 replace h3:0≤t:=h3
 replace h4:t≤100000000:=h4
 obtain ⟨p,hp⟩:∃ p:Nat,f / 60=p:=⟨(f / 60).toNat,by omega⟩
 obtain ⟨q,hq⟩:∃ q:Nat,t / 60=q:=⟨(t / 60).toNat,by omega⟩
 have e1:IntKind.i64.wrap (f.tdiv 60)=(p:Int):=by
  rw [Int.tdiv_eq_ediv_of_nonneg h1,hp]
  exact i64_in _ (by omega)
 have e2:IntKind.i64.wrap (t.tdiv 60)=(q:Int):=by
  rw [Int.tdiv_eq_ediv_of_nonneg h3,hq]
  exact i64_in _ (by omega)
 have e3:IntKind.i64.wrap ((p:Int)+24)=((p+24:Nat):Int):=i64_in _ (by omega)
 have tm:∀ k:Nat,(k:Int).tmod 24=((k % 24:Nat):Int):=fun k=>by
  rw [Int.tmod_eq_emod_of_nonneg (Int.natCast_nonneg k)]
  rfl
 have hn:hoursN f t=min (q - p) 23:=by unfold hoursN;rw [hp,hq];rfl
 have hL:L.length=24:=hr.2.2.1
 have hH:H.length=24:=hr.2.2.2.1
 have hm:∀ k:Nat,k % 24 < 24:=fun k=>Nat.mod_lt _ (by omega)
 have n60:¬ (60:Int)=0:=by decide
 have n24:¬ (24:Int)=0:=by decide
 dsimp only [entBn20,x183,Z1,Z11,Za,Zb,Zd,Zg];simp only [↓hcsBn2,e1,e2,e3,tm,hL,hH,hm,n60,n24,Int.toNat_natCast,go_sem,YA,YS,YM,YL,YE,YD,YB,YN,YR,reduceIte,reduceCtorEq,↓reduceIte]
 try simp only [e1,e2,e3,tm,hL,hH,hm,n60,n24,Int.toNat_natCast,td,reduceCtorEq]
 refine XW_for 1000 x183_0d [0] Nat (fun j=>[(10,.val (.int .i64) ((p+j:Nat):Int)),(8,.val (.int .i64) (lowB L p (j - 1))),(9,.val (.int .i64) (highB H p (j - 1)))]) (fun _=>[]) (fun j=>j≤min (q+1 - p) 25) (fun j=>25 - j) 0 ?_ ?_ ?_
 ·dsimp only [x183_0d]
  simp only [go_sem,YA,YS,YM,YL,YE,YD,YB,YN,YR,reduceIte,reduceCtorEq,↓reduceIte]
  exact ⟨rfl,rfl,rfl⟩
 ·exact Nat.zero_le _
 intro j hj
 by_cases hj':j < min (q+1 - p) 25
 ·have hc1:((p+j:Nat):Int)≤(q:Int):=by omega
  have hc2:p+j≤q:=by omega
  have hc3:((p+j:Nat):Int)≤((p+24:Nat):Int):=by omega
  have hc4:p+j≤p+24:=by omega
  have w2:IntKind.i64.wrap (((p+j:Nat):Int)+1)=((p+(j+1):Nat):Int):=(i64_in _ (by omega)).trans (by omega)
  dsimp only [x183_0,x183_0d,Z1,Z11,Za,Zb,Zc,Zd,Ze]
  simp only [↓hcsBn2,e1,e2,e3,hc1,hc2,hc3,hc4,w2,tm,hL,hH,hm,n60,n24,Int.toNat_natCast,go_sem,YA,YS,YM,YL,YE,YD,YB,YN,YR,reduceIte,reduceCtorEq,↓reduceIte]
  try simp only [e1,e2,e3,hc1,hc2,hc3,hc4,w2,tm,hL,hH,hm,n60,n24,Int.toNat_natCast,td,reduceCtorEq]
  exact ⟨j+1,by omega,by omega,rfl,low_step L p j,high_step H p j⟩
 ·have hc:¬ (p+j≤q∧p+j≤p+24):=by omega
  dsimp only [x183_0,x183_0d,Z1,Z11,Za,Zb,Zc,Zd,Ze]
  simp only [↓hcsBn2,e1,e2,e3,n60,n24,Int.toNat_natCast,go_sem,YA,YS,YM,YL,YE,YD,YB,YN,YR,reduceIte,reduceCtorEq,↓reduceIte]
  try simp only [e1,e2,e3,n60,n24,Int.toNat_natCast,td,reduceCtorEq]
  refine ⟨fun h=>absurd (show p+j≤q∧p+j≤p+24 by omega) hc,fun _=>?_⟩
  have hj1:j - 1=min (q - p) 24:=by omega
  unfold bndF
  rw [hn,hp,Int.toNat_natCast,hj1,lowB_24 L p _ (Nat.min_le_right _ _),highB_24 H p _ (Nat.min_le_right _ _),show min (min (q - p) 24) 23=min (q - p) 23 by omega]
def entLr20:Ent:=⟨129,.cons (.st (.cons (.int .i64) (.cons (.sl (.st (.cons (.int .i64) (.cons (.int .i64) (.cons (.sl (.int .i64)) (.sl (.int .i64))))))) (.cons (.sl (.st (.cons (.int .i64) (.cons (.int .i64) (.cons (.int .i64) (.cons (.int .i64) (.cons (.int .i64) (.cons (.int .i64) (.cons (.int .i64) (.cons (.int .i64) (.int .i64))))))))))) (.cons (.sl (.st (.cons (.int .i64) (.cons (.int .i64) (.cons (.int .i64) (.cons (.int .i64) (.cons (.int .i64) (.cons (.int .i64) (.cons (.int .i64) (.cons (.int .i64) (.cons (.int .i64) (.int .i64)))))))))))) (.cons (.sl (.st (.cons (.int .i64) (.cons (.int .i64) .bool)))) (.st (.cons (.int .i64) (.cons (.int .i64) (.int .i64)))))))))) (.cons (.int .i64) (.cons (.int .i64) (.cons (.st (.cons (.int .i64) (.int .i64))) .nil))),.cons (.st (.cons (.int .i64) (.int .i64))) (.cons .bool .nil),true,none,fun x=>rightP x.1=true∧((0≤(x.2.2.2.1:DWin).1∧(x.2.2.2.1:DWin).1≤1048576)∧0≤(x.2.2.2.1:DWin).2∧(x.2.2.2.1:DWin).2≤1048576)∧(x.2.2.2.1:DWin).1≤(x.2.2.2.1:DWin).2,fun x=>((legF x.1 x.2.1 x.2.2.1 x.2.2.2.1).1,(legF x.1 x.2.1 x.2.2.1 x.2.2.2.1).2,())⟩
def csLr2:List Ent:=[entREarly,entRWay,entBn20] theorem hcsLr2 (f:FuncId):findEnt csLr2 f=findEnt [entREarly,entRWay,entBn20] f:=rfl
theorem conLr20:Con Tryz.prog entLr20:=by
 refine con_is (C:=csLr2) x129 (by kernel_rfl) (by simp [csLr2,conREarly,conRWay,conBn20]) fun x hx hf=>?_
 obtain ⟨⟨(N:Int),(A:List DArc),(C:List DCar),(Q:List DReq),(P:List DPair),(S:DShift)⟩,(f:Int),(t:Int),⟨(e:Int),(l:Int)⟩,_⟩:=x
 obtain ⟨hw,⟨⟨h1,h2⟩,h3,h4⟩,h5⟩:=hx
 replace hw:rightP (N,A,C,Q,P,S)=true:=hw
 replace h1:0≤e:=h1
 replace h2:e≤1048576:=h2
 replace h3:0≤l:=h3
 replace h4:l≤1048576:=h4
 replace h5:e≤l:=h5
 have hn:=rightR_n (rightP_iff.1 hw).1
 dsimp only at hn
 by_cases hft:f=t
 ·subst hft
  dsimp only [entLr20,x129,Z1,Z17,Z2,Za,Zb,Zc,Zd,Zg,Zi];simp only [↓hcsLr2,entREarly,entRWay,entBn20,go_sem,YA,YS,YM,YL,YE,YD,YB,YN,YR,reduceIte,reduceCtorEq,↓reduceIte]
  try simp only [td,reduceCtorEq]
  unfold legF
  rw [if_pos rfl]
 dsimp only [entLr20,x129,Z1,Z17,Z2,Za,Zb,Zc,Zd,Zg,Zi];simp only [↓hcsLr2,entREarly,entRWay,entBn20,hft,go_sem,YA,YS,YM,YL,YE,YD,YB,YN,YR,reduceIte,reduceCtorEq,↓reduceIte]
 try simp only [hft,td,reduceCtorEq]
 refine ⟨by have:=earlyLen (rightP_iff.1 hw).1 f e true;dsimp only at this;omega,?_⟩
 have hlf:legF (N,A,C,Q,P,S) f t (e,l)=((legWay (N,A,C,Q,P,S) f t (e,l)).foldl (legStep A e l) (0,0),decide (legWay (N,A,C,Q,P,S) f t (e,l)≠[])):=by
  unfold legF
  rw [if_neg hft]
 have hbd:=leg_bd hw f t (e,l)
 have hin:∀ i ∈ legWay (N,A,C,Q,P,S) f t (e,l),0≤i∧i < A.length:=fun i hi=>wayF_in i hi
 dsimp only at hbd
 have hWd:wayF (earlyF N A f e true).1 A t=legWay (N,A,C,Q,P,S) f t (e,l):=rfl
 rw [hWd]
 generalize hWW:legWay (N,A,C,Q,P,S) f t (e,l)=W at hlf hbd hin
 have hwl:W.length≤2000:=by rw [← hWW];exact legWay_len hw f t (e,l)
 refine ⟨fun h0=>?_,fun h0=>?_⟩
 ·have:W=[]:=List.length_eq_zero_iff.1 (by omega)
  subst this
  rw [hlf]
  rfl
 refine XW_for 1000 x129_0d [0,1,2] Nat (fun j=>[(14,.val (.int .i64) (j:Int))]) (fun j=>[(30,.box 95 [.val (.int .i64) ((W.take j).foldl (legStep A e l) (0,0)).1,.val (.int .i64) ((W.take j).foldl (legStep A e l) (0,0)).2])]) (fun j=>j≤W.length) (fun j=>W.length - j) 0 ?_ ?_ ?_
 ·dsimp only [x129_0d]
  simp only [go_sem,YA,YS,YM,YL,YE,YD,YB,YN,YR,reduceIte,reduceCtorEq,↓reduceIte]
  exact ⟨rfl,rfl,rfl⟩
 ·exact Nat.zero_le _
 intro j hj
 have hji:j < W.length→(j:Int) < (W.length:Int):=fun h=>by omega
 by_cases hj':j < W.length
 ·have w2:IntKind.i64.wrap ((j:Int)+1)=((j+1:Nat):Int):=i64_in _ (by omega)
  have hmem:=getD_mem2 (d:=(0:Int)) hj'
  have hk:=hin _ hmem
  have hts:W.take (j+1)=W.take j ++ [W.getD j 0]:=by
   rw [List.take_succ_eq_append_getElem hj']
   simp [List.getD,hj']
  have hb:=hbd j
  have hb2:=hbd (j+1)
  rw [hts,List.foldl_append] at hb2
  generalize hS:W.getD j 0=k at hmem hk hts hb2
  generalize hO:(W.take j).foldl (legStep A e l) (0,0)=out at hb hb2
  obtain ⟨k,rfl⟩:∃ z:Nat,k=z:=⟨k.toNat,by omega⟩
  have hka:k < A.length:=by omega
  have hr:=(hn.2.2.2 _ (getD_mem2 (d:=((0,0,[],[]):DArc)) hka)).1
  have hst:legStep A e l out (k:Int)=(out.1+(bndF (A.getD k (0,0,[],[])) (e+out.1) (l+out.2)).1,out.2+(bndF (A.getD k (0,0,[],[])) (e+out.1) (l+out.2)).2):=rfl
  simp only [List.foldl_cons,List.foldl_nil,hst] at hb2
  obtain ⟨o1,o2⟩:=out
  dsimp only at hb hb2 hst
  have w3:IntKind.i64.wrap (e+o1)=e+o1:=i64_in _ (by omega)
  have w4:IntKind.i64.wrap (l+o2)=l+o2:=i64_in _ (by omega)
  generalize hB:bndF (A.getD k (0,0,[],[])) (e+o1) (l+o2)=bb at hb2 hst
  have hbl:=low_bd (show (toArc (A.getD k (0,0,[],[]))).right from of_decide_eq_true hr) ((e+o1) / 60).toNat (hoursN (e+o1) (l+o2))
  have w5:IntKind.i64.wrap (o1+bb.1)=o1+bb.1:=i64_in _ (by
   rw [← hB]
   unfold bndF
   dsimp only at hbl ⊢
   omega)
  have w6:IntKind.i64.wrap (o2+bb.2)=o2+bb.2:=i64_in _ (by
   rw [← hB]
   unfold bndF
   dsimp only at hbl ⊢
   omega)
  dsimp only [x129_0,x129_0d,Z1,Z13,Z17,Za,Zb,Zc,Zf]
  simp only [↓hcsLr2,entREarly,entRWay,entBn20,hj',hji hj',hS,hO,hka,hr,w2,w3,w4,hB,w5,w6,Int.toNat_natCast,go_sem,YA,YS,YM,YL,YE,YD,YB,YN,YR,reduceIte,reduceCtorEq,↓reduceIte]
  try simp only [hj',hji hj',hS,hO,hka,hr,w2,w3,w4,hB,w5,w6,Int.toNat_natCast,td,reduceCtorEq]
  refine ⟨⟨⟨(by omega:(0:Int)≤e+o1),(by omega:e+o1≤(100000000:Int))⟩,(by omega:(0:Int)≤l+o2),(by omega:l+o2≤(100000000:Int))⟩,j+1,by omega,hj',rfl,?_⟩
  rw [hts,List.foldl_append,hO]
  exact ⟨(congrArg Prod.fst hst).symm,(congrArg Prod.snd hst).symm⟩
 ·obtain rfl:j=W.length:=by omega
  dsimp only [x129_0,x129_0d,Z1,Z13,Z17,Za,Zb,Zc,Zf]
  simp only [↓hcsLr2,entREarly,entRWay,entBn20,hj',go_sem,YA,YS,YM,YL,YE,YD,YB,YN,YR,reduceIte,reduceCtorEq,↓reduceIte]
  try simp only [hj',td,reduceCtorEq]
  rw [hlf]
  try rw [List.take_length]
  rw [show decide (W≠[])=true from decide_eq_true fun z=>h0 (by rw [z];rfl)]
end T
end
section
open Go.RowKit Go.IntWalk
namespace T
def entAs20:Ent:=⟨71,.cons (.st (.cons (.int .i64) (.cons (.sl (.st (.cons (.int .i64) (.cons (.int .i64) (.cons (.sl (.int .i64)) (.sl (.int .i64))))))) (.cons (.sl (.st (.cons (.int .i64) (.cons (.int .i64) (.cons (.int .i64) (.cons (.int .i64) (.cons (.int .i64) (.cons (.int .i64) (.cons (.int .i64) (.cons (.int .i64) (.int .i64))))))))))) (.cons (.sl (.st (.cons (.int .i64) (.cons (.int .i64) (.cons (.int .i64) (.cons (.int .i64) (.cons (.int .i64) (.cons (.int .i64) (.cons (.int .i64) (.cons (.int .i64) (.cons (.int .i64) (.int .i64)))))))))))) (.cons (.sl (.st (.cons (.int .i64) (.cons (.int .i64) .bool)))) (.st (.cons (.int .i64) (.cons (.int .i64) (.int .i64)))))))))) (.cons (.int .i64) (.cons (.sl (.st (.cons (.int .i64) .bool))) .nil)),.bool,false,none,fun _=>True,fun x=>asksF x.1 x.2.1 x.2.2.1⟩
def csAs2:List Ent:=[entRR20,entIn20,entRRightS] theorem hcsAs2 (f:FuncId):findEnt csAs2 f=findEnt [entRR20,entIn20,entRRightS] f:=rfl
set_option maxHeartbeats 4000000 in
theorem conAs20:Con Tryz.prog entAs20:=by
 refine con_is (C:=csAs2) x71 (by kernel_rfl) (by simp [csAs2,conRR20,conIn20,conRRightS]) fun x hx hf=>?_
 obtain ⟨⟨(N:Int),(A:List DArc),(C:List DCar),(Q:List DReq),(P:List DPair),(S1:Int),(S2:Int),(S3:Int)⟩,(c:Int),(ss:List DStop),_⟩:=x
 cases hw:rightP (N,A,C,Q,P,S1,S2,S3) with
 | false =>
  have hz:asksF (N,A,C,Q,P,S1,S2,S3) c ss=false:=by unfold asksF;rw [hw];rfl
  dsimp only [entAs20,x71,Z22,Z23,Z7,Za,Zb,Zc,Ze];simp only [↓hcsAs2,entRR20,entIn20,entRRightS,undef,hw,hz,go_sem,YA,YS,YM,YL,YE,YD,YB,YN,YR,reduceIte,reduceCtorEq,↓reduceIte]
  try simp only [hw,hz,td,reduceCtorEq]
 | true =>
  have hcl:C.length≤600:=(rightP_iff.1 hw).2.1.1
  have w:IntKind.i64.wrap ((C.length:Int) - 1)=(C.length:Int) - 1:=i64_in _ (by omega)
  have hz:asksF (N,A,C,Q,P,S1,S2,S3) c ss=(i3 c 0 ((C.length:Int) - 1) && rightS ss Q):=by
   unfold asksF i3
   rw [hw,Bool.true_and]
   congr 1
   rw [Bool.eq_iff_iff]
   simp
   try omega
  cases h1:i3 c 0 ((C.length:Int) - 1) with
  | false =>
   rw [h1] at hz
   dsimp only [entAs20,x71,Z22,Z23,Z7,Za,Zb,Zc,Ze];simp only [↓hcsAs2,entRR20,entIn20,entRRightS,undef,hw,hz,w,h1,go_sem,YA,YS,YM,YL,YE,YD,YB,YN,YR,reduceIte,reduceCtorEq,↓reduceIte]
   try simp only [hw,hz,w,h1,td,reduceCtorEq]
  | true =>
   rw [h1] at hz
   dsimp only [entAs20,x71,Z22,Z23,Z7,Za,Zb,Zc,Ze];simp only [↓hcsAs2,entRR20,entIn20,entRRightS,undef,hw,hz,w,h1,go_sem,YA,YS,YM,YL,YE,YD,YB,YN,YR,reduceIte,reduceCtorEq,↓reduceIte]
   try simp only [hw,hz,w,h1,td,reduceCtorEq]
def entNd20:Ent:=⟨130,.cons (.st (.cons (.int .i64) (.cons (.sl (.st (.cons (.int .i64) (.cons (.int .i64) (.cons (.sl (.int .i64)) (.sl (.int .i64))))))) (.cons (.sl (.st (.cons (.int .i64) (.cons (.int .i64) (.cons (.int .i64) (.cons (.int .i64) (.cons (.int .i64) (.cons (.int .i64) (.cons (.int .i64) (.cons (.int .i64) (.int .i64))))))))))) (.cons (.sl (.st (.cons (.int .i64) (.cons (.int .i64) (.cons (.int .i64) (.cons (.int .i64) (.cons (.int .i64) (.cons (.int .i64) (.cons (.int .i64) (.cons (.int .i64) (.cons (.int .i64) (.int .i64)))))))))))) (.cons (.sl (.st (.cons (.int .i64) (.cons (.int .i64) .bool)))) (.st (.cons (.int .i64) (.cons (.int .i64) (.int .i64)))))))))) (.cons (.int .i64) (.cons (.sl (.st (.cons (.int .i64) .bool))) (.cons (.int .i64) .nil))),(.int .i64),false,none,fun x=>asksF x.1 x.2.1 x.2.2.1=true∧0≤(x.2.2.2.1:Int)∧(x.2.2.2.1:Int)≤(x.2.2.1:List DStop).length,fun x=>nodeF x.1 x.2.1 x.2.2.1 (x.2.2.2.1:Int).toNat⟩
def csNd2:List Ent:=[] theorem hcsNd2 (f:FuncId):findEnt csNd2 f=findEnt [] f:=rfl
theorem conNd20:Con Tryz.prog entNd20:=by
 refine con_is (C:=csNd2) x130 (by kernel_rfl) (by simp [csNd2]) fun x hx hf=>?_
 obtain ⟨⟨(N:Int),(A:List DArc),(C:List DCar),(Q:List DReq),(P:List DPair),(S1:Int),(S2:Int),(S3:Int)⟩,(c:Int),(ss:List DStop),(k:Int),_⟩:=x
 obtain ⟨ha,h1,h2⟩:=hx
 replace ha:asksF (N,A,C,Q,P,S1,S2,S3) c ss=true:=ha
 replace h1:0≤k:=h1
 replace h2:k≤(ss.length:Int):=h2
 obtain ⟨hw,hc,h3⟩:=asks_iff.1 ha
 dsimp only at hc h3
 obtain ⟨c,rfl⟩:∃ z:Nat,c=z:=⟨c.toNat,by omega⟩
 have hcl:c < C.length:=by omega
 have hca:carAt (N,A,C,Q,P,S1,S2,S3) (c:Int)=C.getD c (0,0,0,0,0,0,0,0,0):=rfl
 by_cases hk:k=0
 ·subst hk
  have hn:nodeF (N,A,C,Q,P,S1,S2,S3) (c:Int) ss (Int.toNat 0)=(C.getD c (0,0,0,0,0,0,0,0,0)).2.1:=rfl
  dsimp only [entNd20,x130,Z1,Z18,Z22,Z6,Z7,Z8,Za,Zb,Zc,Zd,Zf,Zg];simp only [↓hcsNd2,hcl,hn,Int.toNat_natCast,go_sem,YA,YS,YM,YL,YE,YD,YB,YN,YR,reduceIte,reduceCtorEq,↓reduceIte]
  try simp only [hcl,hn,Int.toNat_natCast,td,reduceCtorEq]
  rfl
 obtain ⟨k,rfl⟩:∃ z:Nat,k=((z+1:Nat):Int):=⟨k.toNat - 1,by omega⟩
 have hkl:k < ss.length:=by omega
 have w:IntKind.i64.wrap (((k+1:Nat):Int) - 1)=(k:Int):=(i64_in _ (by have:=h3.1.1;omega)).trans (by omega)
 have hq:=(h3.2 k hkl).1
 have hn:=nodeF_s (N,A,C,Q,P,S1,S2,S3) (c:Int) ss k
 generalize hS:ss.getD k dStop=st at hq hn
 have hS':ss.getD k (0,false)=st:=hS
 obtain ⟨r',p⟩:=st
 dsimp only at hq hn
 obtain ⟨r',rfl⟩:∃ z:Nat,r' = z:=⟨r'.toNat,by omega⟩
 have hql:r' < Q.length:=by omega
 have e1:reqAt (N,A,C,Q,P,S1,S2,S3) (r':Int)=Q.getD r' (0,0,0,0,0,0,0,0,0,0):=rfl
 rw [e1] at hn
 cases p with
 | true =>
  rw [if_pos rfl] at hn
  dsimp only [entNd20,x130,Z1,Z18,Z22,Z6,Z7,Z8,Za,Zb,Zc,Zd,Zf,Zg];simp only [↓hcsNd2,hk,w,hkl,hS',hql,hn,Int.toNat_natCast,go_sem,YA,YS,YM,YL,YE,YD,YB,YN,YR,reduceIte,reduceCtorEq,↓reduceIte]
  try simp only [hk,w,hkl,hS',hql,hn,Int.toNat_natCast,td,reduceCtorEq]
 | false =>
  rw [if_neg (by simp)] at hn
  dsimp only [entNd20,x130,Z1,Z18,Z22,Z6,Z7,Z8,Za,Zb,Zc,Zd,Zf,Zg];simp only [↓hcsNd2,hk,w,hkl,hS',hql,hn,Int.toNat_natCast,go_sem,YA,YS,YM,YL,YE,YD,YB,YN,YR,reduceIte,reduceCtorEq,↓reduceIte]
  try simp only [hk,w,hkl,hS',hql,hn,Int.toNat_natCast,td,reduceCtorEq]
theorem pick_before {ss:List DStop} {rs:List DReq} (h:RightS ss rs) {j k:Nat} (hj:j < ss.length) (hk:k < ss.length) {r:Int} (ej:ss.getD j dStop=(r,true)) (ek:ss.getD k dStop=(r,false)):(r,true) ∈ ss.take k:=by
 obtain ⟨m,h1,h2,h3⟩:=pick_drop h hj (by rw [ej])
 have e1:=h.at_eq h2
 have e2:=h.at_eq hk
 rw [h3,ej] at e1
 rw [ek] at e2
 have:m=k:=by
  have:=e1.symm.trans e2
  omega
 have:=mem_take_of hj (j:=k) (by omega)
 rwa [ej] at this
def entWn20:Ent:=⟨128,.cons (.st (.cons (.int .i64) (.cons (.sl (.st (.cons (.int .i64) (.cons (.int .i64) (.cons (.sl (.int .i64)) (.sl (.int .i64))))))) (.cons (.sl (.st (.cons (.int .i64) (.cons (.int .i64) (.cons (.int .i64) (.cons (.int .i64) (.cons (.int .i64) (.cons (.int .i64) (.cons (.int .i64) (.cons (.int .i64) (.int .i64))))))))))) (.cons (.sl (.st (.cons (.int .i64) (.cons (.int .i64) (.cons (.int .i64) (.cons (.int .i64) (.cons (.int .i64) (.cons (.int .i64) (.cons (.int .i64) (.cons (.int .i64) (.cons (.int .i64) (.int .i64)))))))))))) (.cons (.sl (.st (.cons (.int .i64) (.cons (.int .i64) .bool)))) (.st (.cons (.int .i64) (.cons (.int .i64) (.int .i64)))))))))) (.cons (.int .i64) (.cons (.sl (.st (.cons (.int .i64) .bool))) (.cons (.int .i64) .nil))),(.st (.cons (.int .i64) (.int .i64))),false,none,fun x=>asksF x.1 x.2.1 x.2.2.1=true∧0≤(x.2.2.2.1:Int)∧(x.2.2.2.1:Int)≤(x.2.2.1:List DStop).length,fun x=>winF x.1 x.2.1 x.2.2.1 (x.2.2.2.1:Int).toNat⟩
def csWn2:List Ent:=[] theorem hcsWn2 (f:FuncId):findEnt csWn2 f=findEnt [] f:=rfl
theorem conWn20:Con Tryz.prog entWn20:=by
 refine con_is (C:=csWn2) x128 (by kernel_rfl) (by simp [csWn2]) fun x hx hf=>?_
 obtain ⟨⟨(N:Int),(A:List DArc),(C:List DCar),(Q:List DReq),(P:List DPair),(S1:Int),(S2:Int),(S3:Int)⟩,(c:Int),(ss:List DStop),(k:Int),_⟩:=x
 obtain ⟨ha,h1,h2⟩:=hx
 replace ha:asksF (N,A,C,Q,P,S1,S2,S3) c ss=true:=ha
 replace h1:0≤k:=h1
 replace h2:k≤(ss.length:Int):=h2
 obtain ⟨hw,hc,h3⟩:=asks_iff.1 ha
 dsimp only at hc h3
 obtain ⟨c,rfl⟩:∃ z:Nat,c=z:=⟨c.toNat,by omega⟩
 have hcl:c < C.length:=by omega
 have hca:carAt (N,A,C,Q,P,S1,S2,S3) (c:Int)=C.getD c (0,0,0,0,0,0,0,0,0):=rfl
 by_cases hk:k=0
 ·subst hk
  have hn:winF (N,A,C,Q,P,S1,S2,S3) (c:Int) ss (Int.toNat 0)=((C.getD c (0,0,0,0,0,0,0,0,0)).2.2.1,(C.getD c (0,0,0,0,0,0,0,0,0)).2.2.2.1):=rfl
  dsimp only [entWn20,x128,Z1,Z18,Z2,Z22,Z6,Z7,Z8,Za,Zb,Zc,Zd,Zg,Zi];simp only [↓hcsWn2,hcl,hn,Int.toNat_natCast,go_sem,YA,YS,YM,YL,YE,YD,YB,YN,YR,reduceIte,reduceCtorEq,↓reduceIte]
  try simp only [hcl,hn,Int.toNat_natCast,td,reduceCtorEq]
  rfl
 obtain ⟨k,rfl⟩:∃ z:Nat,k=((z+1:Nat):Int):=⟨k.toNat - 1,by omega⟩
 have hkl:k < ss.length:=by omega
 have w:IntKind.i64.wrap (((k+1:Nat):Int) - 1)=(k:Int):=(i64_in _ (by have:=h3.1.1;omega)).trans (by omega)
 have hq:=(h3.2 k hkl).1
 have hn:=winF_s (N,A,C,Q,P,S1,S2,S3) (c:Int) ss k
 have hpb:=fun {j:Nat} {r:Int} hj=>pick_before h3 (j:=j) (r:=r) hj hkl
 rw [hca] at hn
 generalize hS:ss.getD k dStop=st at hq hn hpb
 have hS':ss.getD k (0,false)=st:=hS
 obtain ⟨r,p⟩:=st
 dsimp only at hq hn
 obtain ⟨r,rfl⟩:∃ z:Nat,r=z:=⟨r.toNat,by omega⟩
 have hql:r < Q.length:=by omega
 have e1:reqAt (N,A,C,Q,P,S1,S2,S3) (r:Int)=Q.getD r (0,0,0,0,0,0,0,0,0,0):=rfl
 rw [e1] at hn
 generalize hK:C.getD c (0,0,0,0,0,0,0,0,0)=car at hn
 generalize hQ:Q.getD r (0,0,0,0,0,0,0,0,0,0)=q at hn
 obtain ⟨k1,k2,k3,k4,k5,k6,k7,k8,k9⟩:=car
 obtain ⟨q1,q2,q3,q4,q5,q6,q7,q8⟩:=q
 unfold minI at hn
 dsimp only at hn
 cases p with
 | true =>
  rw [if_pos rfl] at hn
  dsimp only [entWn20,x128,Z1,Z18,Z2,Z22,Z6,Z7,Z8,Za,Zb,Zc,Zd,Zg,Zi];simp only [↓hcsWn2,hk,w,hkl,hS',hql,hcl,hK,hQ,hn,Int.toNat_natCast,go_sem,YA,YS,YM,YL,YE,YD,YB,YN,YR,reduceIte,reduceCtorEq,↓reduceIte]
  try simp only [hk,w,hkl,hS',hql,hcl,hK,hQ,hn,Int.toNat_natCast,td,reduceCtorEq]
 | false =>
  rw [if_neg (by simp)] at hn
  dsimp only [entWn20,x128,Z1,Z18,Z2,Z22,Z6,Z7,Z8,Za,Zb,Zc,Zd,Zg,Zi];simp only [↓hcsWn2,hk,w,hkl,hS',hql,hcl,hK,hQ,Int.toNat_natCast,go_sem,YA,YS,YM,YL,YE,YD,YB,YN,YR,reduceIte,reduceCtorEq,↓reduceIte]
  try simp only [hk,w,hkl,hS',hql,hcl,hK,hQ,Int.toNat_natCast,td,reduceCtorEq]
  have hres:∀ x y:Int,(x,y)=winF (N,A,C,Q,P,S1,S2,S3) (c:Int) ss (Int.toNat ((k+1:Nat):Int)) ↔ (x,y)=winF (N,A,C,Q,P,S1,S2,S3) (c:Int) ss (k+1):=fun _ _=>Iff.rfl
  refine XW_for 1000 x128_0d [0,1,7,16,24] Nat (fun j=>[(12,.val (.int .i64) (j:Int))]) (fun _=>[]) (fun j=>j≤ss.length∧((r:Int),true) ∉ ss.take j) (fun j=>ss.length - j) 0 ?_ ?_ ?_
  ·dsimp only [x128_0d];simp only [go_sem,YA,YS,YM,YL,YE,YD,YB,YN,YR,reduceIte,reduceCtorEq,↓reduceIte];try trivial
  ·exact ⟨Nat.zero_le _,by simp⟩
  ·rintro j ⟨hj,hno⟩
   by_cases hjl:j < ss.length
   ·have w2:IntKind.i64.wrap ((j:Int)+1)=((j+1:Nat):Int):=i64_in _ (by have:=h3.1.1;omega)
    have ht:=take_next hjl
    replace hpb:=fun r=>hpb (j:=j) (r:=r) hjl
    generalize hT:ss.getD j dStop=t at ht hpb
    have hT':ss.getD j (0,false)=t:=hT
    obtain ⟨t1,t2⟩:=t
    have hnx:¬ (t1=(r:Int)∧t2=true)→((r:Int),true) ∉ ss.take (j+1):=fun h h'=>by
     rw [ht] at h'
     rcases List.mem_append.1 h' with h' | h'
     ·exact hno h'
     ·have:=List.mem_singleton.1 h'
      rw [Prod.mk.injEq] at this
      exact h ⟨this.1.symm,this.2.symm⟩
    dsimp only [x128_0,x128_0d,Z1,Z2,Z8,Za,Zb,Zc,Zd,Zf];simp only [↓hcsWn2,hjl,w2,hT',hcl,hK,hQ,go_sem,YA,YS,YM,YL,YE,YD,YB,YN,YR,reduceIte,reduceCtorEq,↓reduceIte]
    simp only [hjl,w2,hT',hcl,hK,hQ,td,reduceCtorEq]
    refine ⟨fun h=>?_,fun h=>⟨j+1,by omega,⟨by omega,hnx fun q=>?_⟩,rfl⟩⟩
    ·rw [hn,if_pos (hpb (r:Int) (by rw [h.1,h.2]) rfl)]
    ·have:=h q.1
     rw [q.2] at this
     exact Bool.noConfusion this
   ·dsimp only [x128_0,x128_0d,Z1,Z2,Z8,Za,Zb,Zc,Zd,Zf];simp only [↓hcsWn2,hjl,hcl,hK,hQ,go_sem,YA,YS,YM,YL,YE,YD,YB,YN,YR,reduceIte,reduceCtorEq,↓reduceIte]
    simp only [hjl,hcl,hK,hQ,td,reduceCtorEq]
    have hj2:j=ss.length:=by omega
    subst hj2
    have hno':¬ ((r:Int),true) ∈ ss.take k:=fun h=>hno (by rw [List.take_length];exact List.mem_of_mem_take h)
    rw [if_neg hno'] at hn
    rw [hn]
end T
end
section
open Go.RowKit Go.IntWalk
namespace T
theorem ridesR_no (w:DWorld) {ss:List DStop} {j:Nat} (h:(ss.getD j dStop).2=false):ridesR w ss j=ridesR w ss (j+1):=by
 unfold ridesR
 rw [List.range_succ,List.filter_append,List.filter_cons_of_neg (by rw [h];simp),List.filter_nil,List.append_nil]
theorem ridesR_yes (w:DWorld) {ss:List DStop} {j:Nat} (h:(ss.getD j dStop).2=true):ridesR w ss j ++ [rideR w ss j]=ridesR w ss (j+1):=by
 unfold ridesR
 rw [List.range_succ,List.filter_append,List.filter_cons_of_pos (p:=fun k=>(ss.getD k dStop).2) h,List.map_append];rfl
theorem ridesR_le (w:DWorld) (ss:List DStop) (j:Nat):(ridesR w ss j).length≤j:=by
 unfold ridesR
 rw [List.length_map]
 exact Nat.le_trans (List.length_filter_le _ _) (by rw [List.length_range];omega)
def entChR:Ent:=⟨74,.cons (.st (.cons (.int .i64) (.cons (.sl (.st (.cons (.int .i64) (.cons (.int .i64) (.cons (.sl (.int .i64)) (.sl (.int .i64))))))) (.cons (.sl (.st (.cons (.int .i64) (.cons (.int .i64) (.cons (.int .i64) (.cons (.int .i64) (.cons (.int .i64) (.cons (.int .i64) (.cons (.int .i64) (.cons (.int .i64) (.int .i64))))))))))) (.cons (.sl (.st (.cons (.int .i64) (.cons (.int .i64) (.cons (.int .i64) (.cons (.int .i64) (.cons (.int .i64) (.cons (.int .i64) (.cons (.int .i64) (.cons (.int .i64) (.cons (.int .i64) (.int .i64)))))))))))) (.cons (.sl (.st (.cons (.int .i64) (.cons (.int .i64) .bool)))) (.st (.cons (.int .i64) (.cons (.int .i64) (.int .i64)))))))))) (.cons (.int .i64) (.cons (.sl (.st (.cons (.int .i64) .bool))) .nil)),.cons (.st (.cons (.sl (.st (.cons (.int .i64) (.int .i64)))) (.cons (.sl (.st (.cons (.int .i64) (.int .i64)))) (.sl (.st (.cons (.int .i64) (.cons (.int .i64) (.int .i64)))))))) (.cons (.int .i64) .nil),true,none,fun _=>True,fun x=>((chainF x.1 x.2.1 x.2.2.1).1,(chainF x.1 x.2.1 x.2.2.1).2,())⟩
def csChR:List Ent:=[entAs20,entLr20,entNd20,entWn20] theorem hcsChR (f:FuncId):findEnt csChR f=findEnt [entAs20,entLr20,entNd20,entWn20] f:=rfl
set_option maxRecDepth 10000 in
set_option maxHeartbeats 4000000 in
theorem conChR:Con Tryz.prog entChR:=by
 refine con_is (C:=csChR) x74 (by kernel_rfl) (by simp [csChR,conAs20,conLr20,conNd20,conWn20]) fun x hx hf=>?_
 obtain ⟨⟨(N:Int),(A:List DArc),(C:List DCar),(Q:List DReq),(P:List DPair),(S1:Int),(S2:Int),(S3:Int)⟩,(c:Int),(ss:List DStop),_⟩:=x
 cases ha:asksF (N,A,C,Q,P,S1,S2,S3) c ss with
 | false =>
  have hz:chainF (N,A,C,Q,P,S1,S2,S3) c ss=(([],[],[]),1):=by unfold chainF;rw [if_pos ha];rfl
  dsimp only [entChR,x74,Z12,Z23,Zb,Zg,Zi];simp only [↓hcsChR,entAs20,entLr20,entNd20,entWn20,ha,hz,go_sem,YA,YS,YM,YL,YE,YD,YB,YN,YR,reduceIte,reduceCtorEq,↓reduceIte]
  try simp only [ha,hz,td,reduceCtorEq]
 | true =>
  obtain ⟨hw,hc,hss⟩:=asks_iff.1 ha
  dsimp only at hc hss
  dsimp only [entChR,x74,Z12,Z23,Zb,Zg,Zi];simp only [↓hcsChR,entAs20,entLr20,entNd20,entWn20,ha,Int.toNat_natCast,go_sem,YA,YS,YM,YL,YE,YD,YB,YN,YR,reduceIte,reduceCtorEq,↓reduceIte]
  try simp only [ha,Int.toNat_natCast,td,reduceCtorEq]
  have hL80:ss.length≤80:=hss.1.1
  refine XW_nilb 9 0 70 (.st (.cons (.int .i64) (.int .i64))) rfl rfl ?_
  refine XW_nilb 9 1 95 (.st (.cons (.int .i64) (.int .i64))) rfl rfl ?_
  refine XW_nilb 9 2 109 (.st (.cons (.int .i64) (.cons (.int .i64) (.int .i64)))) rfl rfl ?_
  refine XW_for 1000 x74_0d [0,1,14,16] Nat (fun k=>[(9,.val (.int .i64) (k:Int))])
   (fun k=>[(9,.box 66 [.own 12,.own 14,.own 16]),(12,.row 70 (.st (.cons (.int .i64) (.int .i64))) ((List.range k).map (winF (N,A,C,Q,P,S1,S2,S3) c ss)))])
   (fun k=>k≤ss.length+1∧∀ i,i < k→badW (N,A,C,Q,P,S1,S2,S3) c ss i=false) (fun k=>ss.length+1 - k) 0 ?_ ?_ ?_
  ·dsimp only [x74_0d];simp only [go_sem,YA,YS,YM,YL,YE,YD,YB,YN,YR,reduceIte,reduceCtorEq,↓reduceIte];try trivial
  ·exact ⟨Nat.zero_le _,fun i hi=>by omega⟩
  ·rintro k ⟨hk,hB⟩
   by_cases hkl:k≤ss.length
   ·have w2:IntKind.i64.wrap ((k:Int)+1)=((k+1:Nat):Int):=i64_in _ (by omega)
    have hwl:((List.range k).map (winF (N,A,C,Q,P,S1,S2,S3) c ss)).length=k:=by rw [List.length_map,List.length_range]
    have hms:=range_map_s (winF (N,A,C,Q,P,S1,S2,S3) c ss) k
    have hcb:=chain_bad (j:=k) ha hkl
    have hbw:badW (N,A,C,Q,P,S1,S2,S3) c ss k=decide ((winF (N,A,C,Q,P,S1,S2,S3) c ss k).1 > (winF (N,A,C,Q,P,S1,S2,S3) c ss k).2):=rfl
    have hki:(k:Int)≤(ss.length:Int):=by omega
    generalize hWk:winF (N,A,C,Q,P,S1,S2,S3) c ss k=wk at hms hbw
    obtain ⟨wa,wb⟩:=wk
    dsimp only [x74_0,x74_0d,Z1,Z12,Z2,Z23,Z3,Za,Zb,Zc,Zd,Zg,Zi];simp only [↓hcsChR,entAs20,entLr20,entNd20,entWn20,hki,ha,w2,hWk,hwl,Int.toNat_natCast,go_sem,YA,YS,YM,YL,YE,YD,YB,YN,YR,reduceIte,reduceCtorEq,↓reduceIte]
    simp only [hki,ha,w2,hWk,hwl,Int.toNat_natCast,td,reduceCtorEq]
    refine ⟨fun h=>?_,fun h=>⟨by omega,k+1,by omega,⟨by omega,fun i hi=>?_⟩,rfl,hms⟩⟩
    ·rw [hcb (by rw [hbw];exact decide_eq_true h)]
    ·rcases Nat.lt_or_ge i k with q | q
     ·exact hB i q
     ·rw [show i=k by omega,hbw]
      exact decide_eq_false (Int.not_lt.2 h)
   ·obtain rfl:k=ss.length+1:=by omega
    have hkn:¬ ((ss.length+1:Nat):Int)≤(ss.length:Int):=by omega
    dsimp only [x74_0,x74_0d,Z1,Z12,Z2,Z23,Z3,Za,Zb,Zc,Zd,Zg,Zi];simp only [↓hcsChR,entAs20,entLr20,entNd20,entWn20,hkn,go_sem,YA,YS,YM,YL,YE,YD,YB,YN,YR,reduceIte,reduceCtorEq,↓reduceIte]
    try simp only [hkn,td,reduceCtorEq]
    refine XW_for 2000 x74_1d [0,1,9,12,16] Nat (fun k=>[(11,.val (.int .i64) (k:Int))])
     (fun k=>[(14,.row 95 (.st (.cons (.int .i64) (.int .i64))) ((List.range k).map fun k=>(legAt (N,A,C,Q,P,S1,S2,S3) c ss k).1))])
     (fun k=>k≤ss.length∧∀ k',k' < k→(legAt (N,A,C,Q,P,S1,S2,S3) c ss k').2=true) (fun k=>ss.length - k) 0 ?_ ?_ ?_
    ·dsimp only [x74_1d];simp only [go_sem,YA,YS,YM,YL,YE,YD,YB,YN,YR,reduceIte,reduceCtorEq,↓reduceIte];try trivial
    ·exact ⟨Nat.zero_le _,fun k hk=>by omega⟩
    ·rintro k ⟨hk,hB'⟩
     by_cases hkl:k < ss.length
     ·have w2:IntKind.i64.wrap ((k:Int)+1)=((k+1:Nat):Int):=i64_in _ (by omega)
      have hki:(k:Int)≤(ss.length:Int):=by omega
      have hki':((k+1:Nat):Int)≤(ss.length:Int):=by omega
      have hwd:((List.range (ss.length+1)).map (winF (N,A,C,Q,P,S1,S2,S3) c ss)).getD k (0,0)=winF (N,A,C,Q,P,S1,S2,S3) c ss k:=by
       rw [List.getD_eq_getElem?_getD,List.getElem?_map,List.getElem?_range (by omega)];rfl
      have hwl:((List.range (ss.length+1)).map (winF (N,A,C,Q,P,S1,S2,S3) c ss)).length=ss.length+1:=by rw [List.length_map,List.length_range]
      have hll:((List.range k).map fun k=>(legAt (N,A,C,Q,P,S1,S2,S3) c ss k).1).length=k:=by rw [List.length_map,List.length_range]
      have hLg:legF (N,A,C,Q,P,S1,S2,S3) (nodeF (N,A,C,Q,P,S1,S2,S3) c ss k) (nodeF (N,A,C,Q,P,S1,S2,S3) c ss (k+1)) (winF (N,A,C,Q,P,S1,S2,S3) c ss k)=legAt (N,A,C,Q,P,S1,S2,S3) c ss k:=rfl
      have hwr:=win_rng ha (k:=k) (by omega)
      have hbk:(winF (N,A,C,Q,P,S1,S2,S3) c ss k).1≤(winF (N,A,C,Q,P,S1,S2,S3) c ss k).2:=by
       have:=hB k (by omega)
       unfold badW at this
       have:=of_decide_eq_false this
       omega
      have hkw:k < ss.length+1:=by omega
      dsimp only [x74_1,x74_1d,Z12,Z2,Z23,Z3,Za,Zb,Zc,Zd,Zf];simp only [↓hcsChR,entAs20,entLr20,entNd20,entWn20,hkl,hki,hki',w2,hwd,hwl,hll,hLg,hw,ha,hkw,Int.toNat_natCast,go_sem,YA,YS,YM,YL,YE,YD,YB,YN,YR,reduceIte,reduceCtorEq,↓reduceIte]
      simp only [hkl,hki,hki',w2,hwd,hwl,hll,hLg,hw,ha,hkw,Int.toNat_natCast,td,reduceCtorEq]
      refine ⟨⟨hwr,hbk⟩,fun h=>?_,fun h=>⟨by omega,k+1,by omega,⟨by omega,fun k' hk'=>?_⟩,rfl,range_map_s _ k⟩⟩
      ·have hz:chainF (N,A,C,Q,P,S1,S2,S3) c ss=(([],[],[]),4):=by
        unfold chainF
        rw [if_neg (by rw [ha];simp),if_neg ?_,if_pos (List.any_eq_true.2 ⟨k,List.mem_range.2 hkl,by rw [h];rfl⟩)];· rfl
        intro h'
        obtain ⟨i,hi,hb⟩:=List.any_eq_true.1 h'
        rw [hB i (List.mem_range.1 hi)] at hb
        exact Bool.noConfusion hb
       rw [hz]
      ·rcases Nat.lt_or_ge k' k with q | q
       ·exact hB' k' q
       ·rw [show k' = k by omega];exact h
     ·obtain rfl:k=ss.length:=by omega
      dsimp only [x74_1,x74_1d,Z12,Z2,Z23,Z3,Za,Zb,Zc,Zd,Zf];simp only [↓hcsChR,entAs20,entLr20,entNd20,entWn20,hkl,go_sem,YA,YS,YM,YL,YE,YD,YB,YN,YR,reduceIte,reduceCtorEq,↓reduceIte]
      simp only [hkl,td,reduceCtorEq]
      have hz:chainF (N,A,C,Q,P,S1,S2,S3) c ss=((winsF (N,A,C,Q,P,S1,S2,S3) c ss,legsF (N,A,C,Q,P,S1,S2,S3) c ss,ridesR (N,A,C,Q,P,S1,S2,S3) ss ss.length),0):=by
       unfold chainF
       rw [if_neg (by rw [ha];simp),if_neg ?_,if_neg ?_]
       ·intro h'
        obtain ⟨i,hi,hb⟩:=List.any_eq_true.1 h'
        rw [hB' i (List.mem_range.1 hi)] at hb
        exact Bool.noConfusion hb
       ·intro h'
        obtain ⟨i,hi,hb⟩:=List.any_eq_true.1 h'
        rw [hB i (List.mem_range.1 hi)] at hb
        exact Bool.noConfusion hb
      refine XW_for 3000 x74_2d [0,1,9,12,14] Nat (fun k=>[(14,.val (.int .i64) (k:Int))])
       (fun k=>[(16,.row 109 (.st (.cons (.int .i64) (.cons (.int .i64) (.int .i64)))) (ridesR (N,A,C,Q,P,S1,S2,S3) ss k))])
       (fun k=>k≤ss.length) (fun k=>ss.length - k) 0 ?_ ?_ ?_
      ·dsimp only [x74_2d];simp only [go_sem,YA,YS,YM,YL,YE,YD,YB,YN,YR,reduceIte,reduceCtorEq,↓reduceIte];try trivial
      ·exact Nat.zero_le _
      ·rintro k hk
       by_cases hkl:k < ss.length
       ·have w2:IntKind.i64.wrap ((k:Int)+1)=((k+1:Nat):Int):=i64_in _ (by omega)
        have hq:=(hss.2 k hkl).1
        have hat:=fun {m:Nat} (hm:m < ss.length)=>hss.at_eq hm
        have hpd:=pick_drop hss hkl
        have hrk:rideR (N,A,C,Q,P,S1,S2,S3) ss k=((k:Int)+1,atF ((ss.getD k dStop).1,false) ss+1,(Q.getD (ss.getD k dStop).1.toNat (0,0,0,0,0,0,0,0,0,0)).2.2.2.2.2.2.1):=rfl
        have hry:=ridesR_yes (N,A,C,Q,P,S1,S2,S3) (ss:=ss) (j:=k)
        have hrn:=ridesR_no (N,A,C,Q,P,S1,S2,S3) (ss:=ss) (j:=k)
        have hrl:=ridesR_le (N,A,C,Q,P,S1,S2,S3) ss k
        have hatk:=hat hkl
        generalize hS:ss.getD k dStop=st at hq hpd hrk hry hrn hatk
        have hS':ss.getD k (0,false)=st:=hS
        obtain ⟨r,p⟩:=st
        dsimp only at hq hpd hrk hry hrn
        cases p with
        | false =>
         replace hrn:=hrn rfl
         dsimp only [x74_2,x74_2d,Z8,Za,Zb];simp only [↓hcsChR,entAs20,entLr20,entNd20,entWn20,hkl,w2,hS',go_sem,YA,YS,YM,YL,YE,YD,YB,YN,YR,reduceIte,reduceCtorEq,↓reduceIte]
         simp only [hkl,w2,hS',td,reduceCtorEq]
         exact ⟨k+1,by omega,by omega,rfl,hrn⟩
        | true =>
         obtain ⟨d,hd1,hd2,hd3⟩:=hpd rfl
         replace hry:=hry rfl
         have hatd:=hat hd2
         rw [hd3] at hatd
         rw [hatd] at hrk
         obtain ⟨r,rfl⟩:∃ z:Nat,r=z:=⟨r.toNat,by omega⟩
         have hql:r < Q.length:=by omega
         rw [Int.toNat_natCast] at hrk
         dsimp only [x74_2,x74_2d,Z8,Za,Zb];simp only [↓hcsChR,entAs20,entLr20,entNd20,entWn20,hkl,w2,hS',go_sem,YA,YS,YM,YL,YE,YD,YB,YN,YR,reduceIte,reduceCtorEq,↓reduceIte]
         simp only [hkl,w2,hS',td,reduceCtorEq]
         refine XW_for 4000 x74_3d [0,1,9,12,14] Nat (fun m=>[(15,.val (.int .i64) ((k+1+m:Nat):Int))])
          (fun m=>[(16,.row 109 (.st (.cons (.int .i64) (.cons (.int .i64) (.int .i64)))) (ridesR (N,A,C,Q,P,S1,S2,S3) ss k ++ if d < k+1+m then [rideR (N,A,C,Q,P,S1,S2,S3) ss k] else []))])
          (fun m=>k+1+m≤ss.length) (fun m=>ss.length - m) 0 ?_ ?_ ?_
         ·dsimp only [x74_3d];simp only [go_sem,YA,YS,YM,YL,YE,YD,YB,YN,YR,reduceIte,reduceCtorEq,↓reduceIte];try trivial
          rw [if_neg (by omega),List.append_nil]
         ·show k+1+0≤ss.length;omega
         ·rintro m hm
          by_cases hml:k+1+m < ss.length
          ·have hmi:((k+1+m:Nat):Int) < (ss.length:Int):=by omega
           have w3:IntKind.i64.wrap (((k+1+m:Nat):Int)+1)=((k+1+(m+1):Nat):Int):=(i64_in _ (by omega)).trans (by omega)
           have hatm:=hat hml
           generalize hT:ss.getD (k+1+m) dStop=t at hatm
           have hT':ss.getD (k+1+m) (0,false)=t:=hT
           obtain ⟨t1,t2⟩:=t
           dsimp only [x74_3,x74_3d,Z1,Z10,Z5,Z6,Z7,Z8,Za,Zb,Zc,Zf];simp only [↓hcsChR,entAs20,entLr20,entNd20,entWn20,hml,hmi,w2,w3,hS',hT',hkl,hql,Int.toNat_natCast,go_sem,YA,YS,YM,YL,YE,YD,YB,YN,YR,reduceIte,reduceCtorEq,↓reduceIte]
           simp only [hml,hmi,w2,w3,hS',hT',hkl,hql,Int.toNat_natCast,td,reduceCtorEq]
           have hk1:t1=(r:Int)→k+1+m=d:=fun h=>by
            subst h
            cases t2 with
            | true=>have:=hatm.symm.trans hatk;omega
            | false=>have:=hatm.symm.trans hatd;omega
           have hk2:k+1+m=d→t1=(r:Int):=fun h=>by
            rw [h,hd3] at hT
            exact (Prod.mk.inj hT).1.symm
           refine ⟨fun h=>?_,fun h=>⟨m+1,by omega,by omega,rfl,?_⟩⟩
           ·have e:=hk1 h
            rw [if_neg (by omega),List.append_nil]
            refine ⟨by omega,m+1,by omega,by omega,rfl,?_⟩
            rw [if_pos (by omega),hrk,show ((k+1:Nat):Int)=(k:Int)+1 by omega,show ((k+1+(m+1):Nat):Int)=(d:Int)+1 by omega]
           ·have e:k+1+m≠d:=fun e=>h (hk2 e)
            by_cases q:d < k+1+m
            ·rw [if_pos q,if_pos (by omega)]
            ·rw [if_neg q,if_neg (by omega)]
          ·have hmi:¬ ((k+1+m:Nat):Int) < (ss.length:Int):=by omega
           dsimp only [x74_3,x74_3d,Z1,Z10,Z5,Z6,Z7,Z8,Za,Zb,Zc,Zf];simp only [↓hcsChR,entAs20,entLr20,entNd20,entWn20,hmi,w2,go_sem,YA,YS,YM,YL,YE,YD,YB,YN,YR,reduceIte,reduceCtorEq,↓reduceIte]
           simp only [hmi,w2,td,reduceCtorEq]
           rw [if_pos (by omega)]
           exact ⟨k+1,by omega,by omega,rfl,hry⟩
       ·obtain rfl:k=ss.length:=by omega
        dsimp only [x74_2,x74_2d,Z8,Za,Zb];simp only [↓hcsChR,entAs20,entLr20,entNd20,entWn20,hkl,go_sem,YA,YS,YM,YL,YE,YD,YB,YN,YR,reduceIte,reduceCtorEq,↓reduceIte]
        simp only [hkl,hz,td,reduceCtorEq]
        rfl
end T
end
section
open Go.RowKit Go.IntWalk
namespace T
def entGd16:Ent:=⟨139,.cons (.st (.cons (.sl (.st (.cons (.int .i64) (.int .i64)))) (.cons (.sl (.st (.cons (.int .i64) (.int .i64)))) (.sl (.st (.cons (.int .i64) (.cons (.int .i64) (.int .i64)))))))) .nil,(.sl (.int .i64)),false,none,fun x=>rightC x.1=true∧∀ r ∈ (x.1:DChain).2.2,lateR x.1 r=false,fun x=>gsF x.1 (x.1:DChain).1.length⟩
def csGd6:List Ent:=[entHg16] theorem hcsGd6 (f:FuncId):findEnt csGd6 f=findEnt [entHg16] f:=rfl
set_option maxHeartbeats 4000000 in
theorem conGd16:Con Tryz.prog entGd16:=by
 refine con_is (C:=csGd6) x139 (by kernel_rfl) (by simp [csGd6,conHg16]) fun x hx hf=>?_
 obtain ⟨⟨(W:List DWin),(L:List DLeg),(R:List DRide)⟩,_⟩:=x
 obtain ⟨hr,hnl⟩:=hx
 have hr:rightC (W,L,R)=true:=hr
 have hnl:∀ r ∈ R,lateR (W,L,R) r=false:=hnl
 have hc:=(rightC_iff.1 hr).1
 dsimp only at hc
 have w4:IntKind.i64.wrap ((W.length:Int) - 1)=(W.length:Int) - 1:=i64_in _ (by omega)
 dsimp only [entGd16,x139,Z1,Z3,Za,Zb,Zg];simp only [↓hcsGd6,entHg16,w4,go_sem,YA,YS,YM,YL,YE,YD,YB,YN,YR,reduceIte,reduceCtorEq,↓reduceIte]
 try simp only [w4,td,reduceCtorEq]
 have hgl:∀ p,(gsF (W,L,R) (W.length - p)).length=W.length - p:=fun p=>gsF_len _ _
 have hgb:∀ p,Within 0 (85983232 * (((W.length - p:Nat):Int)+1)) (gsF (W,L,R) (W.length - p)):=fun p=>gs_bd hr _ (Nat.sub_le _ _)
 refine ⟨by show (8:Int) * (W.length:Int)≤_;omega,?_⟩
 refine XW_for 2000 x139_0d [0,1] Nat (fun p=>[(5,.val (.int .i64) ((p:Int) - 1))]) (fun p=>[(7,.row 3 (.int .i64) (aR p (gsF (W,L,R) (W.length - p))))]) (fun p=>p≤W.length) (fun p=>p) W.length ?_ ?_ ?_
 ·dsimp only [x139_0d]
  simp only [go_sem,YA,YS,YM,YL,YE,YD,YB,YN,YR,reduceIte,reduceCtorEq,↓reduceIte]
  rw [Nat.sub_self]
  exact (List.append_nil _).symm
 ·exact Nat.le_refl _
 intro p hp
 have hrest:=hgl p
 have hrb:=hgb p
 generalize hG:gsF (W,L,R) (W.length - p)=rest at hrest hrb
 cases p with
 | succ k =>
  have e9:((k+1:Nat):Int) - 1=(k:Int):=by omega
  have e10:(k:Int) ≥ 0:=by omega
  dsimp only [x139_0,x139_0d,Z1,Z2,Z3,Za,Zb]
  simp only [↓hcsGd6,entHg16,e9,e10,aR_set,aR_len,Int.toNat_natCast,go_sem,YA,YS,YM,YL,YE,YD,YB,YN,YR,reduceIte,reduceCtorEq,↓reduceIte]
  try simp only [e9,e10,aR_set,aR_len,Int.toNat_natCast,td,reduceCtorEq]
  refine ⟨⟨by omega,by omega⟩,?_⟩
  have hk:k < W.length:=by omega
  have hstep:=gs_step (W,L,R) (k:=k) hk
  rw [hG] at hstep
  have hfp:∀ i,0≤(R.take i).foldl (rF (W,L,R) k rest) (W.getD k (0,0)).1∧(R.take i).foldl (rF (W,L,R) k rest) (W.getD k (0,0)).1≤85983232 * (((W.length - (k+1):Nat):Int)+1)+85983232:=fun i=>by
   have h2:=right_win hr (k:=k) hk
   dsimp only at h2
   exact fold_bd hr (by omega) hrb (R.take i) (fun r hr=>List.mem_of_mem_take hr) _ h2.1 (by omega)
  refine XW_for 3000 x139_1d [0,1] Nat (fun i=>[(6,.val (.int .i64) (i:Int))]) (fun i=>[(7,.row 3 (.int .i64) (bR k ((R.take i).foldl (rF (W,L,R) k rest) (W.getD k (0,0)).1) rest))]) (fun i=>i≤R.length) (fun i=>R.length - i) 0 ?_ ?_ ?_
  ·dsimp only [x139_1d]
   simp only [go_sem,YA,YS,YM,YL,YE,YD,YB,YN,YR,reduceIte,reduceCtorEq,↓reduceIte]
   exact ⟨rfl,rfl⟩
  ·exact Nat.zero_le _
  intro i hi
  by_cases hi':i < R.length
  ·have w3:IntKind.i64.wrap ((i:Int)+1)=((i+1:Nat):Int):=i64_in _ (by omega)
   have w5:IntKind.i64.wrap ((k:Int)+1)=((k+1:Nat):Int):=i64_in _ (by omega)
   have hrd:=right_ride hr (k:=i) hi'
   have hts:R.take (i+1)=R.take i ++ [R.getD i (0,0,0)]:=by
    rw [List.take_succ_eq_append_getElem hi']
    simp [List.getD,hi']
   have hfi:=hfp i
   have hmem:=getD_mem2 (d:=((0,0,0):DRide)) hi'
   generalize hS:R.getD i (0,0,0)=r at hrd hts hmem
   generalize hA:(R.take i).foldl (rF (W,L,R) k rest) (W.getD k (0,0)).1=acc at hfi
   obtain ⟨a,b,d⟩:=r
   dsimp only at hrd
   obtain ⟨b,rfl⟩:∃ z:Nat,b=z:=⟨b.toNat,by omega⟩
   have hi0:(i:Int) < (R.length:Int):=by omega
   dsimp only [x139_1,x139_1d,Z10,Z5,Za,Zb,Zd]
   simp only [↓hcsGd6,entHg16,hi',hi0,hS,hA,w3,w5,Int.toNat_natCast,go_sem,YA,YS,YM,YL,YE,YD,YB,YN,YR,reduceIte,reduceCtorEq,↓reduceIte]
   try simp only [hi',hi0,hS,hA,w3,w5,Int.toNat_natCast,td,reduceCtorEq]
   have hrf:rF (W,L,R) k rest acc (a,(b:Int),d)=if a=k then mF (W,L,R) k rest (a,(b:Int),d) acc (b - k) else acc:=by
    unfold rF
    dsimp only
    rw [Int.toNat_natCast]
   have hmb:a=k→∀ q,q≤b - k→0≤mF (W,L,R) k rest (a,(b:Int),d) acc q∧mF (W,L,R) k rest (a,(b:Int),d) acc q≤85983232 * (((W.length - (k+1):Nat):Int)+1)+85983232:=fun e=>by
    have h1:=mF_bd hr hmem e (by omega) hrb hfi.1 hfi.2
    dsimp only at h1
    rw [Int.toNat_natCast] at h1
    exact h1
   refine XW_for 4000 x139_2d [0,1,3010] Nat (fun q=>[(8,.val (.int .i64) ((k+1+q:Nat):Int))]) (fun q=>[(7,.row 3 (.int .i64) (bR k (if a=k then mF (W,L,R) k rest (a,(b:Int),d) acc q else acc) rest))]) (fun q=>(q≤b - k)∧(a≠k→q=0)) (fun q=>b - k - q) 0 ?_ ?_ ?_
   ·dsimp only [x139_2d]
    simp only [go_sem,YA,YS,YM,YL,YE,YD,YB,YN,YR,reduceIte,reduceCtorEq,↓reduceIte]
    split <;> rfl
   ·exact ⟨Nat.zero_le _,fun _=>rfl⟩
   rintro q ⟨hq,hq0⟩
   by_cases hgo:a=k∧q < b - k
   ·obtain ⟨hak,hq'⟩:=hgo
    subst hak
    have w6:IntKind.i64.wrap (((k+1+q:Nat):Int)+1)=((k+1+(q+1):Nat):Int):=(i64_in _ (by omega)).trans (by omega)
    have hcb:((k+1+q:Nat):Int)≤(b:Int):=by omega
    have hmq:=hmb rfl q (by omega)
    have hrq:=hrb.getD (by omega) (by omega) q
    have hpm:=psF_mono hr (a:=k+1+q) (b:=b) (by omega)
    dsimp only at hpm
    have w7:IntKind.i64.wrap (rest.getD q 0+(psF L b - psF L (k+1+q)))=rest.getD q 0+(psF L b - psF L (k+1+q)):=i64_in _ (by omega)
    have w8:IntKind.i64.wrap (rest.getD q 0+(psF L b - psF L (k+1+q)) - d)=rest.getD q 0+(psF L b - psF L (k+1+q)) - d:=i64_in _ (by omega)
    dsimp only [x139_2,x139_2d,Z1,Z12,Za,Zb,Zc,Zf]
    simp only [↓hcsGd6,entHg16,hcb,hr,bR_len,bR_at,bR_rest,bR_set,w6,w7,w8,Int.toNat_natCast,go_sem,YA,YS,YM,YL,YE,YD,YB,YN,YR,reduceIte,reduceCtorEq,↓reduceIte]
    try simp only [hcb,hr,bR_len,bR_at,bR_rest,bR_set,w6,w7,w8,Int.toNat_natCast,td,reduceCtorEq]
    refine ⟨⟨by omega,by omega,by omega,by omega,by show (b:Int)≤(L.length:Int);omega,by omega⟩,q+1,by omega,by omega,rfl,?_⟩
    show _=bR k (maxI _ _) rest
    unfold maxI
    rw [Int.toNat_natCast]
   ·have hcb:¬ (a=(k:Int)∧((k+1+q:Nat):Int)≤(b:Int)):=fun z=>hgo ⟨z.1,by omega⟩
    dsimp only [x139_2,x139_2d,Z1,Z12,Za,Zb,Zc,Zf]
    simp only [↓hcsGd6,entHg16,hcb,w3,go_sem,YA,YS,YM,YL,YE,YD,YB,YN,YR,reduceIte,reduceCtorEq,↓reduceIte]
    try simp only [hcb,w3,td,reduceCtorEq]
    refine fun hbk=>⟨i+1,by omega,hi',rfl,?_⟩
    rw [hts,List.foldl_append,hA]
    show _=bR k (rF (W,L,R) k rest acc (a,(b:Int),d)) rest
    rw [hrf]
    by_cases hak:a=k
    ·rw [if_pos hak,if_pos hak,show q=b - k by have:=hbk hak;omega]
    ·rw [if_neg hak,if_neg hak]
  ·have hi0:¬ (i:Int) < (R.length:Int):=by omega
   dsimp only [x139_1,x139_1d,Z10,Z5,Za,Zb,Zd]
   simp only [↓hcsGd6,entHg16,hi',hi0,go_sem,YA,YS,YM,YL,YE,YD,YB,YN,YR,reduceIte,reduceCtorEq,↓reduceIte]
   try simp only [hi',hi0,td,reduceCtorEq]
   refine ⟨k,by omega,by omega,i64_in _ (by omega),?_⟩
   rw [hstep,aR_bR,List.take_of_length_le (by omega)]
   rfl
 | zero =>
  have e10:¬ (((0:Nat):Int) - 1) ≥ 0:=by decide
  dsimp only [x139_0,x139_0d,Z1,Z2,Z3,Za,Zb]
  simp only [↓hcsGd6,entHg16,e10,aR_zero,go_sem,YA,YS,YM,YL,YE,YD,YB,YN,YR,reduceIte,reduceCtorEq,↓reduceIte]
  try simp only [e10,aR_zero,td,reduceCtorEq]
  rw [← hG,Nat.sub_zero]
def entGrd16:Ent:=⟨79,.cons (.st (.cons (.sl (.st (.cons (.int .i64) (.int .i64)))) (.cons (.sl (.st (.cons (.int .i64) (.int .i64)))) (.sl (.st (.cons (.int .i64) (.cons (.int .i64) (.int .i64)))))))) .nil,.cons (.sl (.int .i64)) (.cons (.int .i64) .nil),true,none,fun _=>True,fun x=>((guardF x.1).1,(guardF x.1).2,())⟩
def csGr6:List Ent:=[entRR16,entHg16,entGd16,entPl16,entHi16] theorem hcsGr6 (f:FuncId):findEnt csGr6 f=findEnt [entRR16,entHg16,entGd16,entPl16,entHi16] f:=rfl
set_option maxHeartbeats 4000000 in
theorem conGrd16:Con Tryz.prog entGrd16:=by
 refine con_is (C:=csGr6) x79 (by kernel_rfl) (by simp [csGr6,conRR16,conHg16,conGd16,conPl16,conHi16]) fun x hx hf=>?_
 obtain ⟨⟨(W:List DWin),(L:List DLeg),(R:List DRide)⟩,_⟩:=x
 dsimp only [entGrd16,x79,Z1,Z12,Za,Zb,Zd,Zg];simp only [↓hcsGr6,entRR16,entHg16,entGd16,entPl16,entHi16,go_sem,YA,YS,YM,YL,YE,YD,YB,YN,YR,reduceIte,reduceCtorEq,↓reduceIte];try simp only [td,reduceCtorEq]
 refine ⟨fun h=>by unfold guardF;rw [if_pos h],fun hr=>?_⟩
 have hc:=(rightC_iff.1 hr).1
 dsimp only at hc
 have hps:∀ k,_:=fun k=>psF_bd hr k
 dsimp only at hps
 refine XW_for 1000 x79_0d [0] Nat (fun j=>[(4,.val (.int .i64) (j:Int))]) (fun _=>[]) (fun j=>j≤R.length∧∀ k,k < j→lateR (W,L,R) (R.getD k (0,0,0))=false) (fun j=>R.length - j) 0 ?_ ?_ ?_
 ·dsimp only [x79_0d]
  simp only [go_sem,YA,YS,YM,YL,YE,YD,YB,YN,YR,reduceIte,reduceCtorEq,↓reduceIte]
  try trivial
 ·exact ⟨Nat.zero_le _,fun k hk=>absurd hk (Nat.not_lt_zero _)⟩
 rintro i ⟨hi,hm⟩
 by_cases hi':i < R.length
 ·have w3:IntKind.i64.wrap ((i:Int)+1)=((i+1:Nat):Int):=i64_in _ (by omega)
  have hrd:=right_ride hr (k:=i) hi'
  have hmem:=getD_mem2 (d:=((0,0,0):DRide)) hi'
  generalize hS:R.getD i (0,0,0)=r at hrd hmem
  obtain ⟨a,b,d⟩:=r
  dsimp only at hrd
  obtain ⟨a,rfl⟩:∃ z:Nat,a=z:=⟨a.toNat,by omega⟩
  obtain ⟨b,rfl⟩:∃ z:Nat,b=z:=⟨b.toNat,by omega⟩
  have hi0:(i:Int) < (R.length:Int):=by omega
  have hla:lateR (W,L,R) ((a:Int),(b:Int),d)=decide (d < psF L b - psF L a):=by
   unfold lateR
   dsimp only
   rw [Int.toNat_natCast,Int.toNat_natCast]
  have hp1:(0:Int)≤(a:Int):=by omega
  have hp2:(a:Int)≤(b:Int):=by omega
  have hp3:(b:Int)≤(L.length:Int):=by omega
  dsimp only [x79_0,x79_0d,Z1,Z10,Z12,Z5,Za,Zb,Zc,Zf]
  simp only [↓hcsGr6,entRR16,entHg16,entGd16,entPl16,entHi16,hi',hi0,hS,hr,hp1,hp2,hp3,w3,Int.toNat_natCast,go_sem,YA,YS,YM,YL,YE,YD,YB,YN,YR,reduceIte,reduceCtorEq,↓reduceIte]
  try simp only [hi',hi0,hS,hr,hp1,hp2,hp3,w3,Int.toNat_natCast,td,reduceCtorEq]
  refine ⟨fun h=>?_,fun h=>⟨i+1,by omega,⟨hi',fun k hk=>?_⟩,rfl⟩⟩
  ·unfold guardF
   rw [if_neg (by rw [hr];simp),if_pos (late_any.2 ⟨_,hmem,by rw [hla];exact decide_eq_true h⟩)]
  ·by_cases c:k=i
   ·subst c
    rw [hS,hla]
    exact decide_eq_false (by omega)
   ·exact hm k (by omega)
 have hnl:∀ r ∈ R,lateR (W,L,R) r=false:=fun r hrm=>by
  obtain ⟨k,hk,rfl⟩:=List.getElem_of_mem hrm
  have:=hm k (by omega)
  rwa [show R.getD k (0,0,0)=R[k] by simp [List.getD,hk]] at this
 have hi0:¬ (i:Int) < (R.length:Int):=by omega
 have hfit:=gs_fits hr hnl
 obtain ⟨_,hgl,hgw⟩:=fitsG_iff.1 hfit
 dsimp only at hgl hgw
 have hgu:guardF (W,L,R)=if inTime (W,L,R) (playF (gsF (W,L,R) W.length) (highsF L))=false then ([],20) else (gsF (W,L,R) W.length,0):=by
  unfold guardF
  rw [if_neg (by rw [hr];simp),if_neg (fun z=>by obtain ⟨r,h1,h2⟩:=late_any.1 z;rw [hnl r h1] at h2;cases h2)]
 have hpl:(playF (gsF (W,L,R) W.length) (highsF L)).length=W.length:=by rw [playF_len,highs_len];omega
 dsimp only [x79_0,x79_0d,Z1,Z10,Z12,Z5,Za,Zb,Zc,Zf]
 simp only [↓hcsGr6,entRR16,entHg16,entGd16,entPl16,entHi16,hi',hi0,hr,go_sem,YA,YS,YM,YL,YE,YD,YB,YN,YR,reduceIte,reduceCtorEq,↓reduceIte]
 try simp only [hi',hi0,hr,td,reduceCtorEq]
 refine ⟨hnl,⟨by omega,⟨by rw [highs_len];omega,hgl,by omega⟩,hgw,highs_within hr⟩,?_⟩
 generalize hP:playF (gsF (W,L,R) W.length) (highsF L)=P at hgu hpl
 refine XW_for 5000 x79_1d [0] Nat (fun i=>[(7,.val (.int .i64) (i:Int))]) (fun _=>[]) (fun i=>i≤P.length∧∀ q,q < i→P.getD q 0≤(W.getD q (0,0)).2) (fun i=>P.length - i) 0 ?_ ?_ ?_
 ·dsimp only [x79_1d]
  simp only [go_sem,YA,YS,YM,YL,YE,YD,YB,YN,YR,reduceIte,reduceCtorEq,↓reduceIte]
  try trivial
 ·exact ⟨Nat.zero_le _,fun q hq=>absurd hq (Nat.not_lt_zero _)⟩
 rintro j ⟨hj,hn⟩
 have w3:j < P.length→IntKind.i64.wrap ((j:Int)+1)=((j+1:Nat):Int):=fun _=>i64_in _ (by omega)
 dsimp only [x79_1,x79_1d,Z1,Z2,Z3,Za,Zb,Zc,Zf]
 simp only [↓hcsGr6,entRR16,entHg16,entGd16,entPl16,entHi16,go_sem,YA,YS,YM,YL,YE,YD,YB,YN,YR,reduceIte,reduceCtorEq,↓reduceIte]
 try simp only [td,reduceCtorEq]
 refine ⟨fun hj'=>⟨⟨hj',by omega⟩,fun h=>?_,fun h=>⟨j+1,by omega,⟨hj',fun q hq=>?_⟩,w3 hj'⟩⟩,fun hj'=>?_⟩
 ·rw [hgu,if_pos]
  rw [← Bool.not_eq_true]
  intro q
  have:=inTime_iff.1 q j hj'
  dsimp only at this
  omega
 ·by_cases c:q=j
  ·subst c;exact h
  ·exact hn q (by omega)
 ·rw [hgu,if_neg]
  rw [inTime_iff.2 fun q hq=>hn q (by omega)]
  simp
end T
end
section
open Go.RowKit Go.IntWalk
namespace T
theorem begF_eq (w:DWorld) (c:Int) (ss:List DStop):begF w c ss=if asksF w c ss=false then (noChain,1) else if (fitsF (carLoad (carAt w c)) ss w.2.2.2.1).2≠0 then (noChain,27) else if togF w.2.2.2.2.1 ss w.2.2.2.1=false then (noChain,30) else chainF w c ss:=rfl
def entMkR:Ent:=⟨33,.cons (.st (.cons (.int .i64) (.cons (.sl (.st (.cons (.int .i64) (.cons (.int .i64) (.cons (.sl (.int .i64)) (.sl (.int .i64))))))) (.cons (.sl (.st (.cons (.int .i64) (.cons (.int .i64) (.cons (.int .i64) (.cons (.int .i64) (.cons (.int .i64) (.cons (.int .i64) (.cons (.int .i64) (.cons (.int .i64) (.int .i64))))))))))) (.cons (.sl (.st (.cons (.int .i64) (.cons (.int .i64) (.cons (.int .i64) (.cons (.int .i64) (.cons (.int .i64) (.cons (.int .i64) (.cons (.int .i64) (.cons (.int .i64) (.cons (.int .i64) (.int .i64)))))))))))) (.cons (.sl (.st (.cons (.int .i64) (.cons (.int .i64) .bool)))) (.st (.cons (.int .i64) (.cons (.int .i64) (.int .i64)))))))))) (.cons (.int .i64) (.cons (.sl (.st (.cons (.int .i64) .bool))) .nil)),.cons (.st (.cons (.int .i64) (.cons (.sl (.st (.cons (.int .i64) .bool))) (.cons (.sl (.st (.cons (.int .i64) (.int .i64)))) (.sl (.int .i64)))))) (.cons (.int .i64) .nil),true,none,fun _=>True,fun x=>((makeF x.1 x.2.1 x.2.2.1).1,(makeF x.1 x.2.1 x.2.2.1).2,())⟩
def csMkR:List Ent:=[entAs20,entRFits,entRTog,entChR,entGrd16,entWt20,entCk19] theorem hcsMkR (f:FuncId):findEnt csMkR f=findEnt [entAs20,entRFits,entRTog,entChR,entGrd16,entWt20,entCk19] f:=rfl
set_option maxHeartbeats 1000000 in
theorem conMkR:Con Tryz.prog entMkR:=by
 refine con_is (C:=csMkR) x33 (by kernel_rfl) (by simp [csMkR,conAs20,conRFits,conRTog,conChR,conGrd16,conWt20,conCk19]) fun x hx hf=>?_
 obtain ⟨⟨(N:Int),(A:List DArc),(C:List DCar),(Q:List DReq),(P:List DPair),(S1:Int),(S2:Int),(S3:Int)⟩,(c:Int),(ss:List DStop),_⟩:=x
 have hz:=makeF_eq (N,A,C,Q,P,S1,S2,S3) c ss
 have hb:=begF_eq (N,A,C,Q,P,S1,S2,S3) c ss
 cases ha:asksF (N,A,C,Q,P,S1,S2,S3) c ss with
 | false =>
  rw [if_pos ha] at hb
  rw [hb] at hz
  dsimp only at hz
  rw [if_pos (by decide)] at hz
  dsimp only [entMkR,x33,Z1,Z11,Z12,Z18,Z19,Z20,Z21,Z22,Z23,Z3,Z5,Z7,Z8,Za,Zb,Zc,Zd,Zf,Zg,Zi];simp only [↓hcsMkR,entAs20,entRFits,entRTog,entChR,entGrd16,entWt20,entCk19,undef,ha,hz,go_sem,YA,YS,YM,YL,YE,YD,YB,YN,YR,reduceIte,reduceCtorEq,↓reduceIte]
  try simp only [ha,hz,td,reduceCtorEq]
  all_goals rfl
 | true =>
  rw [if_neg (by rw [ha];simp)] at hb
  obtain ⟨hw,hc,hss⟩:=asks_iff.1 ha
  dsimp only at hc hss
  have hL80:ss.length≤80:=hss.1.1
  obtain ⟨c,rfl⟩:∃ z:Nat,c=z:=⟨c.toNat,by omega⟩
  have hcl:c < C.length:=by omega
  have hca:carAt (N,A,C,Q,P,S1,S2,S3) (c:Int)=C.getD c (0,0,0,0,0,0,0,0,0):=rfl
  rw [hca] at hb
  dsimp only at hb
  have h16:((0:Nat)+ss.length) * 16≤140737488355328:=by omega
  generalize hfe:fitsF (carLoad (C.getD c (0,0,0,0,0,0,0,0,0))) ss Q=fe at hb
  obtain ⟨f1,f2⟩:=fe
  dsimp only at hb
  by_cases hf2:f2=0
  ·subst hf2
   rw [if_neg (by simp)] at hb
   cases ht:togF P ss Q with
   | false =>
    rw [if_pos ht] at hb
    rw [hb] at hz
    dsimp only at hz
    rw [if_pos (by decide)] at hz
    dsimp only [entMkR,x33,Z1,Z11,Z12,Z18,Z19,Z20,Z21,Z22,Z23,Z3,Z5,Z7,Z8,Za,Zb,Zc,Zd,Zf,Zg,Zi];simp only [↓hcsMkR,entAs20,entRFits,entRTog,entChR,entGrd16,entWt20,entCk19,undef,ha,hcl,hfe,ht,hz,Int.toNat_natCast,go_sem,YA,YS,YM,YL,YE,YD,YB,YN,YR,reduceIte,reduceCtorEq,↓reduceIte]
    try simp only [ha,hcl,hfe,ht,hz,Int.toNat_natCast,td,reduceCtorEq]
    all_goals rfl
   | true =>
    rw [if_neg (by rw [ht];simp)] at hb
    generalize hch:chainF (N,A,C,Q,P,S1,S2,S3) (c:Int) ss=be at hb
    rw [hb] at hz
    obtain ⟨⟨W,L,R⟩,e⟩:=be
    dsimp only at hz
    by_cases he:e=0
    ·subst he
     rw [if_neg (by simp)] at hz
     generalize hg:guardF (W,L,R)=gu at hz
     obtain ⟨gd,e⟩:=gu
     dsimp only at hz
     by_cases he:e=0
     ·subst he
      have hfit:fitsG (W,L,R) gd=true:=by have:=guard_fits (c:=(W,L,R)) (by rw [hg]);rwa [hg] at this
      rw [if_neg (by simp)] at hz
      have hrs:restsF (N,A,C,Q,P,S1,S2,S3) (W,L,R) gd=decide ((checkK (S1,S2,S3) L (waitsF (W,L,R) gd)).2=0):=rfl
      rw [hrs] at hz
      generalize hck:checkK (S1,S2,S3) L (waitsF (W,L,R) gd)=ck at hz
      obtain ⟨k1,k2⟩:=ck
      dsimp only at hz
      by_cases hk:k2=0
      ·subst hk
       rw [if_neg (by simp)] at hz
       dsimp only [entMkR,x33,Z1,Z11,Z12,Z18,Z19,Z20,Z21,Z22,Z23,Z3,Z5,Z7,Z8,Za,Zb,Zc,Zd,Zf,Zg,Zi];simp only [↓hcsMkR,entAs20,entRFits,entRTog,entChR,entGrd16,entWt20,entCk19,undef,ha,hcl,hfe,ht,hch,hg,hfit,hck,h16,hz,Int.toNat_natCast,go_sem,YA,YS,YM,YL,YE,YD,YB,YN,YR,reduceIte,reduceCtorEq,↓reduceIte]
       try simp only [ha,hcl,hfe,ht,hch,hg,hfit,hck,h16,hz,Int.toNat_natCast,td,reduceCtorEq]
       all_goals rfl
      ·rw [if_pos (decide_eq_false hk)] at hz
       dsimp only [entMkR,x33,Z1,Z11,Z12,Z18,Z19,Z20,Z21,Z22,Z23,Z3,Z5,Z7,Z8,Za,Zb,Zc,Zd,Zf,Zg,Zi];simp only [↓hcsMkR,entAs20,entRFits,entRTog,entChR,entGrd16,entWt20,entCk19,undef,ha,hcl,hfe,ht,hch,hg,hfit,hck,hk,hz,Int.toNat_natCast,go_sem,YA,YS,YM,YL,YE,YD,YB,YN,YR,reduceIte,reduceCtorEq,↓reduceIte]
       try simp only [ha,hcl,hfe,ht,hch,hg,hfit,hck,hk,hz,Int.toNat_natCast,td,reduceCtorEq]
       all_goals rfl
     ·rw [if_pos he] at hz
      dsimp only [entMkR,x33,Z1,Z11,Z12,Z18,Z19,Z20,Z21,Z22,Z23,Z3,Z5,Z7,Z8,Za,Zb,Zc,Zd,Zf,Zg,Zi];simp only [↓hcsMkR,entAs20,entRFits,entRTog,entChR,entGrd16,entWt20,entCk19,undef,ha,hcl,hfe,ht,hch,hg,he,hz,Int.toNat_natCast,go_sem,YA,YS,YM,YL,YE,YD,YB,YN,YR,reduceIte,reduceCtorEq,↓reduceIte]
      try simp only [ha,hcl,hfe,ht,hch,hg,he,hz,Int.toNat_natCast,td,reduceCtorEq]
      all_goals rfl
    ·rw [if_pos he] at hz
     dsimp only [entMkR,x33,Z1,Z11,Z12,Z18,Z19,Z20,Z21,Z22,Z23,Z3,Z5,Z7,Z8,Za,Zb,Zc,Zd,Zf,Zg,Zi];simp only [↓hcsMkR,entAs20,entRFits,entRTog,entChR,entGrd16,entWt20,entCk19,undef,ha,hcl,hfe,ht,hch,he,hz,Int.toNat_natCast,go_sem,YA,YS,YM,YL,YE,YD,YB,YN,YR,reduceIte,reduceCtorEq,↓reduceIte]
     try simp only [ha,hcl,hfe,ht,hch,he,hz,Int.toNat_natCast,td,reduceCtorEq]
     all_goals rfl
  ·rw [if_pos hf2] at hb
   rw [hb] at hz
   dsimp only at hz
   rw [if_pos (by decide)] at hz
   dsimp only [entMkR,x33,Z1,Z11,Z12,Z18,Z19,Z20,Z21,Z22,Z23,Z3,Z5,Z7,Z8,Za,Zb,Zc,Zd,Zf,Zg,Zi];simp only [↓hcsMkR,entAs20,entRFits,entRTog,entChR,entGrd16,entWt20,entCk19,undef,ha,hcl,hfe,hf2,hz,Int.toNat_natCast,go_sem,YA,YS,YM,YL,YE,YD,YB,YN,YR,reduceIte,reduceCtorEq,↓reduceIte]
   try simp only [ha,hcl,hfe,hf2,hz,Int.toNat_natCast,td,reduceCtorEq]
   all_goals rfl
end T
end
section
open Go.RowKit Go.IntWalk
namespace T
def entCkR:Ent:=⟨32,.cons (.st (.cons (.int .i64) (.cons (.sl (.st (.cons (.int .i64) (.cons (.int .i64) (.cons (.sl (.int .i64)) (.sl (.int .i64))))))) (.cons (.sl (.st (.cons (.int .i64) (.cons (.int .i64) (.cons (.int .i64) (.cons (.int .i64) (.cons (.int .i64) (.cons (.int .i64) (.cons (.int .i64) (.cons (.int .i64) (.int .i64))))))))))) (.cons (.sl (.st (.cons (.int .i64) (.cons (.int .i64) (.cons (.int .i64) (.cons (.int .i64) (.cons (.int .i64) (.cons (.int .i64) (.cons (.int .i64) (.cons (.int .i64) (.cons (.int .i64) (.int .i64)))))))))))) (.cons (.sl (.st (.cons (.int .i64) (.cons (.int .i64) .bool)))) (.st (.cons (.int .i64) (.cons (.int .i64) (.int .i64)))))))))) (.cons (.st (.cons (.int .i64) (.cons (.sl (.st (.cons (.int .i64) .bool))) (.cons (.sl (.st (.cons (.int .i64) (.int .i64)))) (.sl (.int .i64)))))) .nil),(.int .i64),false,none,fun _=>True,fun x=>checkP x.1 x.2.1⟩
def csCkR:List Ent:=[entAs20,entRFits,entRTog,entChR,entSmLg,entRR16,entTi20,entKs20,entWt20,entCk19] theorem hcsCkR (f:FuncId):findEnt csCkR f=findEnt [entAs20,entRFits,entRTog,entChR,entSmLg,entRR16,entTi20,entKs20,entWt20,entCk19] f:=rfl
set_option maxHeartbeats 1000000 in
theorem conCkR:Con Tryz.prog entCkR:=by
 refine con_is (C:=csCkR) x32 (by kernel_rfl) (by simp [csCkR,conAs20,conRFits,conRTog,conChR,conSmLg,conRR16,conTi20,conKs20,conWt20,conCk19]) fun x hx hf=>?_
 obtain ⟨⟨(N:Int),(A:List DArc),(C:List DCar),(Q:List DReq),(P:List DPair),(S1:Int),(S2:Int),(S3:Int)⟩,⟨(c:Int),(ss:List DStop),(Lg:List DLeg),(Lv:List Int)⟩,_⟩:=x
 have hz:=checkP_eq (N,A,C,Q,P,S1,S2,S3) (c,ss,Lg,Lv)
 have hb:=begF_eq (N,A,C,Q,P,S1,S2,S3) c ss
 dsimp only at hz
 have hLvl:Lv.length≤9223372036854775807:=hf.2.1.2.2.2.1
 cases ha:asksF (N,A,C,Q,P,S1,S2,S3) c ss with
 | false =>
  rw [if_pos ha] at hb
  rw [hb] at hz
  dsimp only at hz
  rw [if_pos (by decide)] at hz
  dsimp only [entCkR,x32,Z1,Z11,Z12,Z18,Z19,Z21,Z22,Z23,Z3,Z5,Z7,Za,Zb,Zc,Zd,Ze,Zf,Zg];simp only [↓hcsCkR,entAs20,entRFits,entRTog,entChR,entSmLg,entRR16,entTi20,entKs20,entWt20,entCk19,undef,ha,hz,go_sem,YA,YS,YM,YL,YE,YD,YB,YN,YR,reduceIte,reduceCtorEq,↓reduceIte]
  try simp only [ha,hz,td,reduceCtorEq]
  all_goals rfl
 | true =>
  rw [if_neg (by rw [ha];simp)] at hb
  obtain ⟨hw,hc,hss⟩:=asks_iff.1 ha
  dsimp only at hc hss
  obtain ⟨c,rfl⟩:∃ z:Nat,c=z:=⟨c.toNat,by omega⟩
  have hcl:c < C.length:=by omega
  have hca:carAt (N,A,C,Q,P,S1,S2,S3) (c:Int)=C.getD c (0,0,0,0,0,0,0,0,0):=rfl
  rw [hca] at hb
  dsimp only at hb
  generalize hfe:fitsF (carLoad (C.getD c (0,0,0,0,0,0,0,0,0))) ss Q=fe at hb
  obtain ⟨f1,f2⟩:=fe
  dsimp only at hb
  by_cases hf2:f2=0
  ·subst hf2
   rw [if_neg (by simp)] at hb
   cases ht:togF P ss Q with
   | false =>
    rw [if_pos ht] at hb
    rw [hb] at hz
    dsimp only at hz
    rw [if_pos (by decide)] at hz
    dsimp only [entCkR,x32,Z1,Z11,Z12,Z18,Z19,Z21,Z22,Z23,Z3,Z5,Z7,Za,Zb,Zc,Zd,Ze,Zf,Zg];simp only [↓hcsCkR,entAs20,entRFits,entRTog,entChR,entSmLg,entRR16,entTi20,entKs20,entWt20,entCk19,undef,ha,hcl,hfe,ht,hz,Int.toNat_natCast,go_sem,YA,YS,YM,YL,YE,YD,YB,YN,YR,reduceIte,reduceCtorEq,↓reduceIte]
    try simp only [ha,hcl,hfe,ht,hz,Int.toNat_natCast,td,reduceCtorEq]
    all_goals rfl
   | true =>
    rw [if_neg (by rw [ht];simp)] at hb
    generalize hch:chainF (N,A,C,Q,P,S1,S2,S3) (c:Int) ss=be at hb
    rw [hb] at hz
    obtain ⟨⟨W,L,R⟩,e⟩:=be
    dsimp only at hz
    by_cases he:e=0
    ·subst he
     rw [if_neg (by simp)] at hz
     have hok:okC (N,A,C,Q,P,S1,S2,S3) (c,ss,Lg,Lv) (W,L,R)=(decide (Lg=L) && (decide (Lv.length=W.length) && (allIn 1048576 Lv && rightC (W,L,R)))):=rfl
     by_cases hq:Lg=L∧Lv.length=W.length∧rightC (W,L,R)=true
     ·obtain ⟨o1,o2,o4⟩:=hq
      subst o1
      have o2i:(Lv.length:Int)=(W.length:Int):=by omega
      rw [decide_eq_true rfl,decide_eq_true o2,o4,Bool.true_and,Bool.true_and,Bool.and_true] at hok
      dsimp only [entCkR,x32,Z1,Z11,Z12,Z18,Z19,Z21,Z22,Z23,Z3,Z5,Z7,Za,Zb,Zc,Zd,Ze,Zf,Zg];simp only [↓hcsCkR,entAs20,entRFits,entRTog,entChR,entSmLg,entRR16,entTi20,entKs20,entWt20,entCk19,undef,ha,hcl,hfe,ht,hch,o2,o2i,o4,Int.toNat_natCast,go_sem,YA,YS,YM,YL,YE,YD,YB,YN,YR,reduceIte,reduceCtorEq,↓reduceIte]
      try simp only [ha,hcl,hfe,ht,hch,o2,o2i,o4,Int.toNat_natCast,td,reduceCtorEq]
      have hfitA:Within 0 1048576 Lv→fitsG (W,Lg,R) Lv=true:=fun h=>fitsG_iff.2 ⟨o4,o2,fun x hx=>by have:=h x hx;omega⟩
      refine XW_for 1000 x32_0d [0,1,45] Nat (fun j=>[(8,.val (.int .i64) (j:Int))]) (fun _=>[]) (fun j=>j≤Lv.length∧∀ i,i < j→0≤Lv.getD i 0∧Lv.getD i 0≤1048576) (fun j=>Lv.length - j) 0 ?_ ?_ ?_
      ·dsimp only [x32_0d];simp only [go_sem,YA,YS,YM,YL,YE,YD,YB,YN,YR,reduceIte,reduceCtorEq,↓reduceIte];try trivial
      ·exact ⟨Nat.zero_le _,fun i hi=>by omega⟩
      rintro j ⟨hj,hn⟩
      by_cases hjl:j < Lv.length
      ·have w2:IntKind.i64.wrap ((j:Int)+1)=((j+1:Nat):Int):=i64_in _ (by omega)
       have hjw:j < W.length:=by omega
       cases ht3:i3 (Lv.getD j 0) 0 1048576 with
       | false =>
        have hal:allIn 1048576 Lv=false:=by
         rw [← Bool.not_eq_true]
         intro h
         have:=allIn_within.1 h _ (getD_mem2 (d:=0) hjl)
         generalize Lv.getD j 0=z at this ht3
         unfold i3 at ht3
         simp at ht3
         omega
        rw [if_pos (hok.trans hal)] at hz
        dsimp only [x32_0,x32_0d,Z1,Z11,Za,Zb,Zd];simp only [↓hcsCkR,entAs20,entRFits,entRTog,entChR,entSmLg,entRR16,entTi20,entKs20,entWt20,entCk19,hjl,o2,hjw,w2,ht3,hz,go_sem,YA,YS,YM,YL,YE,YD,YB,YN,YR,reduceIte,reduceCtorEq,↓reduceIte]
        try simp only [hjl,o2,hjw,w2,ht3,hz,td,reduceCtorEq]
       | true =>
        dsimp only [x32_0,x32_0d,Z1,Z11,Za,Zb,Zd];simp only [↓hcsCkR,entAs20,entRFits,entRTog,entChR,entSmLg,entRR16,entTi20,entKs20,entWt20,entCk19,hjl,o2,hjw,w2,ht3,go_sem,YA,YS,YM,YL,YE,YD,YB,YN,YR,reduceIte,reduceCtorEq,↓reduceIte]
        try simp only [hjl,o2,hjw,w2,ht3,td,reduceCtorEq]
        refine ⟨j+1,by omega,⟨by omega,fun i hi=>?_⟩,rfl⟩
        rcases Nat.lt_or_ge i j with q | q
        ·exact hn i q
        ·rw [show i=j by omega]
         generalize Lv.getD j 0=z at ht3 ⊢
         unfold i3 at ht3
         simp at ht3
         omega
      ·have hwi:Within 0 1048576 Lv:=fun x hx=>by
        obtain ⟨i,hi,rfl⟩:=List.getElem_of_mem hx
        have:=hn i (by omega)
        rwa [show Lv.getD i 0=Lv[i] by simp [List.getD,hi]] at this
       have hfit:=hfitA hwi
       have hal:=hok.trans (allIn_within.2 hwi)
       have hjw:¬ j < W.length:=by omega
       rw [if_neg (by rw [hal];simp)] at hz
       have hrs:restsF (N,A,C,Q,P,S1,S2,S3) (W,Lg,R) Lv=decide ((checkK (S1,S2,S3) Lg (waitsF (W,Lg,R) Lv)).2=0):=rfl
       rw [hrs] at hz
       cases hk:keeps20 (W,Lg,R) Lv with
       | false =>
        rw [if_pos hk] at hz
        dsimp only [x32_0,x32_0d,Z1,Z11,Za,Zb,Zd];simp only [↓hcsCkR,entAs20,entRFits,entRTog,entChR,entSmLg,entRR16,entTi20,entKs20,entWt20,entCk19,hjl,o2,hjw,hk,o4,hz,go_sem,YA,YS,YM,YL,YE,YD,YB,YN,YR,reduceIte,reduceCtorEq,↓reduceIte]
        try simp only [hjl,o2,hjw,hk,o4,hz,td,reduceCtorEq]
       | true =>
        rw [if_neg (by rw [hk];simp)] at hz
        have hdd:∀ k2:Int,(if decide (k2=0)=false then (29:Int) else 0)=if ¬ k2=0 then 29 else 0:=fun k2=>by by_cases q:k2=0 <;> simp [q]
        generalize hck:checkK (S1,S2,S3) Lg (waitsF (W,Lg,R) Lv)=ck at hz
        obtain ⟨k1,k2⟩:=ck
        dsimp only at hz
        rw [hdd] at hz
        dsimp only [x32_0,x32_0d,Z1,Z11,Za,Zb,Zd];simp only [↓hcsCkR,entAs20,entRFits,entRTog,entChR,entSmLg,entRR16,entTi20,entKs20,entWt20,entCk19,hjl,o2,hjw,hk,o4,hck,hfit,hz,go_sem,YA,YS,YM,YL,YE,YD,YB,YN,YR,reduceIte,reduceCtorEq,↓reduceIte]
        try simp only [hjl,o2,hjw,hk,o4,hck,hfit,hz,td,reduceCtorEq]
        refine ⟨fun h=>?_,fun h=>?_⟩
        ·rw [if_pos h]
        ·rw [if_neg (fun q=>q h)]
     ·have hok2:okC (N,A,C,Q,P,S1,S2,S3) (c,ss,Lg,Lv) (W,L,R)=false:=by
       rw [← Bool.not_eq_true]
       intro h
       rw [hok] at h
       simp only [Bool.and_eq_true,decide_eq_true_eq] at h
       exact hq ⟨h.1,h.2.1,h.2.2.2⟩
      rw [if_pos hok2] at hz
      have hn:(Lv.length:Int)=(W.length:Int)→Lv.length=W.length:=fun h=>by omega
      dsimp only [entCkR,x32,Z1,Z11,Z12,Z18,Z19,Z21,Z22,Z23,Z3,Z5,Z7,Za,Zb,Zc,Zd,Ze,Zf,Zg];simp only [↓hcsCkR,entAs20,entRFits,entRTog,entChR,entSmLg,entRR16,entTi20,entKs20,entWt20,entCk19,undef,ha,hcl,hfe,ht,hch,hz,Int.toNat_natCast,go_sem,YA,YS,YM,YL,YE,YD,YB,YN,YR,reduceIte,reduceCtorEq,↓reduceIte]
      try simp only [ha,hcl,hfe,ht,hch,hz,Int.toNat_natCast,td,reduceCtorEq]
      exact fun h=>absurd ⟨h.1.1,h.1.2,h.2⟩ hq
    ·rw [if_pos he] at hz
     dsimp only [entCkR,x32,Z1,Z11,Z12,Z18,Z19,Z21,Z22,Z23,Z3,Z5,Z7,Za,Zb,Zc,Zd,Ze,Zf,Zg];simp only [↓hcsCkR,entAs20,entRFits,entRTog,entChR,entSmLg,entRR16,entTi20,entKs20,entWt20,entCk19,undef,ha,hcl,hfe,ht,hch,he,hz,Int.toNat_natCast,go_sem,YA,YS,YM,YL,YE,YD,YB,YN,YR,reduceIte,reduceCtorEq,↓reduceIte]
     try simp only [ha,hcl,hfe,ht,hch,he,hz,Int.toNat_natCast,td,reduceCtorEq]
     all_goals rfl
  ·rw [if_pos hf2] at hb
   rw [hb] at hz
   dsimp only at hz
   rw [if_pos (by decide)] at hz
   dsimp only [entCkR,x32,Z1,Z11,Z12,Z18,Z19,Z21,Z22,Z23,Z3,Z5,Z7,Za,Zb,Zc,Zd,Ze,Zf,Zg];simp only [↓hcsCkR,entAs20,entRFits,entRTog,entChR,entSmLg,entRR16,entTi20,entKs20,entWt20,entCk19,undef,ha,hcl,hfe,hf2,hz,Int.toNat_natCast,go_sem,YA,YS,YM,YL,YE,YD,YB,YN,YR,reduceIte,reduceCtorEq,↓reduceIte]
   try simp only [ha,hcl,hfe,hf2,hz,Int.toNat_natCast,td,reduceCtorEq]
   all_goals rfl
end T
end
section
open Go.RowKit Go.IntWalk
namespace T
def entEnR:Ent:=⟨34,.cons (.st (.cons (.int .i64) (.cons (.sl (.st (.cons (.int .i64) (.cons (.int .i64) (.cons (.sl (.int .i64)) (.sl (.int .i64))))))) (.cons (.sl (.st (.cons (.int .i64) (.cons (.int .i64) (.cons (.int .i64) (.cons (.int .i64) (.cons (.int .i64) (.cons (.int .i64) (.cons (.int .i64) (.cons (.int .i64) (.int .i64))))))))))) (.cons (.sl (.st (.cons (.int .i64) (.cons (.int .i64) (.cons (.int .i64) (.cons (.int .i64) (.cons (.int .i64) (.cons (.int .i64) (.cons (.int .i64) (.cons (.int .i64) (.cons (.int .i64) (.int .i64)))))))))))) (.cons (.sl (.st (.cons (.int .i64) (.cons (.int .i64) .bool)))) (.st (.cons (.int .i64) (.cons (.int .i64) (.int .i64)))))))))) (.cons (.st (.cons (.int .i64) (.cons (.sl (.st (.cons (.int .i64) .bool))) (.cons (.sl (.st (.cons (.int .i64) (.int .i64)))) (.sl (.int .i64)))))) .nil),.cons (.int .i64) (.cons (.int .i64) .nil),true,none,fun _=>True,fun x=>((endP x.1 x.2.1).1,(endP x.1 x.2.1).2,())⟩
def csEnR:List Ent:=[entCkR,entChR,entWst16] theorem hcsEnR (f:FuncId):findEnt csEnR f=findEnt [entCkR,entChR,entWst16] f:=rfl
theorem conEnR:Con Tryz.prog entEnR:=by
 refine con_is (C:=csEnR) x34 (by kernel_rfl) (by simp [csEnR,conCkR,conChR,conWst16]) fun x hx hf=>?_
 obtain ⟨⟨(N:Int),(A:List DArc),(C:List DCar),(Q:List DReq),(P:List DPair),(S1:Int),(S2:Int),(S3:Int)⟩,⟨(c:Int),(ss:List DStop),(Lg:List DLeg),(Lv:List Int)⟩,_⟩:=x
 have hz:=endP_eq (N,A,C,Q,P,S1,S2,S3) (c,ss,Lg,Lv)
 have hck:=fun h=>check_ok (w:=(N,A,C,Q,P,S1,S2,S3)) (p:=(c,ss,Lg,Lv)) h
 dsimp only at hz hck
 generalize he:checkP (N,A,C,Q,P,S1,S2,S3) (c,ss,Lg,Lv)=e at hz hck
 by_cases h0:e=0
 ·subst h0
  rw [if_neg (by simp)] at hz
  obtain ⟨_,_,hok,_,_⟩:=hck rfl
  generalize hch:chainF (N,A,C,Q,P,S1,S2,S3) c ss=ch at hz hok
  obtain ⟨⟨W,L,R⟩,e2⟩:=ch
  have hfit:=(okC_fits hok).2
  dsimp only at hfit hz
  have hw:worstF (W,L,R) Lv=(playF Lv (highsF L),0):=by unfold worstF;rw [if_pos hfit]
  have hpl:(playF Lv (highsF L)).length=L.length+1:=by rw [playF_len,highs_len]
  have hlen:=(rightC_iff.1 (fitsG_iff.1 hfit).1).1
  dsimp only at hlen
  have w1:IntKind.i64.wrap (((L.length+1:Nat):Int) - 1)=(L.length:Int):=(i64_in _ (by omega)).trans (by omega)
  rw [hw] at hz
  unfold lastI at hz
  dsimp only at hz
  rw [hpl,Nat.add_sub_cancel] at hz
  have hl0:L.length < L.length+1:=by omega
  dsimp only [entEnR,x34,Z1,Z11,Z12,Z19,Z20,Z23,Za,Zb,Zc,Zd,Zg];simp only [↓hcsEnR,entCkR,entChR,entWst16,undef,he,hch,hw,hpl,w1,hl0,Int.toNat_natCast,go_sem,YA,YS,YM,YL,YE,YD,YB,YN,YR,reduceIte,reduceCtorEq,↓reduceIte]
  try simp only [he,hch,hw,hpl,w1,hl0,Int.toNat_natCast,td,reduceCtorEq]
  rw [hz]
 ·rw [if_pos h0] at hz
  dsimp only [entEnR,x34,Z1,Z11,Z12,Z19,Z20,Z23,Za,Zb,Zc,Zd,Zg];simp only [↓hcsEnR,entCkR,entChR,entWst16,undef,he,h0,hz,go_sem,YA,YS,YM,YL,YE,YD,YB,YN,YR,reduceIte,reduceCtorEq,↓reduceIte]
  try simp only [he,h0,hz,td,reduceCtorEq]
def entSmP:Ent:=⟨14,.cons (.st (.cons (.int .i64) (.cons (.sl (.st (.cons (.int .i64) .bool))) (.cons (.sl (.st (.cons (.int .i64) (.int .i64)))) (.sl (.int .i64)))))) (.cons (.st (.cons (.int .i64) (.cons (.sl (.st (.cons (.int .i64) .bool))) (.cons (.sl (.st (.cons (.int .i64) (.int .i64)))) (.sl (.int .i64)))))) .nil),.bool,false,none,fun _=>True,fun x=>decide ((x.1:DPlan)=x.2.1)⟩
def csSmP:List Ent:=[entSmLg,entSmSt,entInt16] theorem hcsSmP (f:FuncId):findEnt csSmP f=findEnt [entSmLg,entSmSt,entInt16] f:=rfl
theorem conSmP:Con Tryz.prog entSmP:=by
 refine con_is (C:=csSmP) x14 (by kernel_rfl) (by simp [csSmP,conSmLg,conSmSt,conInt16]) fun x hx hf=>?_
 obtain ⟨⟨(c:Int),(ss:List DStop),(Lg:List DLeg),(Lv:List Int)⟩,⟨(c':Int),(ss':List DStop),(Lg':List DLeg),(Lv':List Int)⟩,_⟩:=x
 dsimp only [entSmP,x14,Z1,Z11,Z19,Z3,Za,Zb,Zc,Ze];simp only [↓hcsSmP,entSmLg,entSmSt,entInt16,undef,go_sem,YA,YS,YM,YL,YE,YD,YB,YN,YR,reduceIte,reduceCtorEq,↓reduceIte]
 try simp only [td,reduceCtorEq]
 rw [Bool.eq_iff_iff]
 simp only [Bool.and_eq_true,beq_iff_eq,decide_eq_true_eq,Prod.mk.injEq,and_assoc]
def entFwP:Ent:=⟨10,.cons (.st (.cons (.int .i64) (.cons (.sl (.st (.cons (.int .i64) .bool))) (.cons (.sl (.st (.cons (.int .i64) (.int .i64)))) (.sl (.int .i64)))))) .nil,.bool,false,none,fun _=>True,fun x=>decide ((x.1:DPlan).2.1.length≤10∧(x.1:DPlan).2.2.1.length≤12∧(x.1:DPlan).2.2.2.length≤12)⟩
def csFwP:List Ent:=[] theorem hcsFwP (f:FuncId):findEnt csFwP f=findEnt [] f:=rfl
theorem conFwP:Con Tryz.prog entFwP:=by
 refine con_is (C:=csFwP) x10 (by kernel_rfl) (by simp [csFwP]) fun x hx hf=>?_
 obtain ⟨⟨(c:Int),(ss:List DStop),(Lg:List DLeg),(Lv:List Int)⟩,_⟩:=x
 dsimp only [entFwP,x10,Z11,Z19,Z3,Za,Zb,Zc,Ze];simp only [↓hcsFwP,undef,go_sem,YA,YS,YM,YL,YE,YD,YB,YN,YR,reduceIte,reduceCtorEq,↓reduceIte]
 try simp only [td,reduceCtorEq]
 rw [Bool.eq_iff_iff]
 simp only [Bool.and_eq_true,decide_eq_true_eq]
 omega
end T
end
section
open Go.RowKit Go.IntWalk
namespace T
def few20 (w:DWorld) (ss:List DStop):Bool :=
 ((List.range w.2.1.length).all fun k=>decide (10 < k∨((w.2.1.getD k (0,0,[],[])).2.2.1.length≤25∧(w.2.1.getD k (0,0,[],[])).2.2.2.length≤25))) &&
 decide ((w.1≤5∨w.1 > 2000)∧w.2.1.length≤10∧w.2.2.1.length≤4∧w.2.2.2.1.length≤8∧w.2.2.2.2.1.length≤5∧ss.length≤10)
def entFew20:Ent:=⟨28,.cons (.st (.cons (.int .i64) (.cons (.sl (.st (.cons (.int .i64) (.cons (.int .i64) (.cons (.sl (.int .i64)) (.sl (.int .i64))))))) (.cons (.sl (.st (.cons (.int .i64) (.cons (.int .i64) (.cons (.int .i64) (.cons (.int .i64) (.cons (.int .i64) (.cons (.int .i64) (.cons (.int .i64) (.cons (.int .i64) (.int .i64))))))))))) (.cons (.sl (.st (.cons (.int .i64) (.cons (.int .i64) (.cons (.int .i64) (.cons (.int .i64) (.cons (.int .i64) (.cons (.int .i64) (.cons (.int .i64) (.cons (.int .i64) (.cons (.int .i64) (.int .i64)))))))))))) (.cons (.sl (.st (.cons (.int .i64) (.cons (.int .i64) .bool)))) (.st (.cons (.int .i64) (.cons (.int .i64) (.int .i64)))))))))) (.cons (.sl (.st (.cons (.int .i64) .bool))) .nil),.bool,false,none,fun _=>True,fun x=>few20 x.1 x.2.1⟩
def csFew20:List Ent:=[] theorem hcsFew20 (f:FuncId):findEnt csFew20 f=findEnt [] f:=rfl
theorem conFew20:Con Tryz.prog entFew20:=by
 refine con_is (C:=csFew20) x28 (by kernel_rfl) (by simp [csFew20]) fun x hx hf=>?_
 obtain ⟨⟨(N:Int),(A:List DArc),(C:List DCar),(Q:List DReq),(P:List DPair),(S1:Int),(S2:Int),(S3:Int)⟩,(ss:List DStop),_⟩:=x
 dsimp only [entFew20,x28,Z1,Z17,Z21,Z22,Z7,Za,Zb,Zc,Ze];simp only [↓hcsFew20,undef,go_sem,YA,YS,YM,YL,YE,YD,YB,YN,YR,reduceIte,reduceCtorEq,↓reduceIte]
 try simp only [td,reduceCtorEq]
 have hN1:N > 2000 ↔ 2000 < N:=Iff.rfl
 refine XW_for 1000 x28_0d [0] Nat (fun j=>[(5,.val (.int .i64) (j:Int))]) (fun _=>[]) (fun j=>(j≤A.length∧j≤11)∧∀ i,i < j→(A.getD i (0,0,[],[])).2.2.1.length≤25∧(A.getD i (0,0,[],[])).2.2.2.length≤25) (fun j=>A.length - j) 0 ?_ ?_ ?_
 ·dsimp only [x28_0d];simp only [go_sem,YA,YS,YM,YL,YE,YD,YB,YN,YR,reduceIte,reduceCtorEq,↓reduceIte];try trivial
 ·exact ⟨⟨Nat.zero_le _,by omega⟩,fun i hi=>by omega⟩
 rintro j ⟨⟨hj,hj11⟩,hn⟩
 by_cases hja:j < A.length∧j≤10
 ·obtain ⟨hja,hjb⟩:=hja
  have w2:IntKind.i64.wrap ((j:Int)+1)=((j+1:Nat):Int):=i64_in _ (by omega)
  have hjbi:(j:Int)≤10:=by omega
  have hno:¬ ((A.getD j (0,0,[],[])).2.2.1.length≤25∧(A.getD j (0,0,[],[])).2.2.2.length≤25)→few20 (N,A,C,Q,P,S1,S2,S3) ss=false:=fun h=>by
   unfold few20
   rw [Bool.and_eq_false_iff]
   refine .inl (List.all_eq_false.2 ⟨j,List.mem_range.2 hja,?_⟩)
   rw [decide_eq_true_eq]
   rintro (q | q)
   ·omega
   ·exact h q
  dsimp only [x28_0,x28_0d,Z11,Z13,Z17,Za,Zb,Zc,Zd,Ze];simp only [↓hcsFew20,undef,hja,hjb,hjbi,w2,go_sem,YA,YS,YM,YL,YE,YD,YB,YN,YR,reduceIte,reduceCtorEq,↓reduceIte]
  try simp only [hja,hjb,hjbi,w2,td,reduceCtorEq]
  refine ⟨fun h=>(hno fun q=>?_).symm,fun h=>⟨j+1,by omega,⟨⟨by omega,by omega⟩,fun i hi=>?_⟩,rfl⟩⟩
  ·rcases h with h | h
   ·exact absurd (Int.ofNat_le.2 q.1) (Int.not_le.2 h)
   ·exact absurd (Int.ofNat_le.2 q.2) (Int.not_le.2 h)
  ·rcases Nat.lt_or_ge i j with q | q
   ·exact hn i q
   ·rw [show i=j by omega]
    exact ⟨Int.ofNat_le.1 h.1,Int.ofNat_le.1 h.2⟩
 ·have hf1:few20 (N,A,C,Q,P,S1,S2,S3) ss=decide ((N≤5∨N > 2000)∧A.length≤10∧C.length≤4∧Q.length≤8∧P.length≤5∧ss.length≤10):=by
   unfold few20
   dsimp only
   rw [List.all_eq_true.2 fun k hk=>?_,Bool.true_and]
   rw [decide_eq_true_eq]
   have:=List.mem_range.1 hk
   by_cases q:k < j
   ·exact .inr (hn k q)
   ·left;omega
  have hcond:¬ ((j:Int) < (A.length:Int)∧(j:Int)≤10):=by omega
  dsimp only [x28_0,x28_0d,Z11,Z13,Z17,Za,Zb,Zc,Zd,Ze];simp only [↓hcsFew20,undef,hf1,go_sem,YA,YS,YM,YL,YE,YD,YB,YN,YR,reduceIte,reduceCtorEq,↓reduceIte]
  try simp only [hf1,td,reduceCtorEq]
  refine ⟨fun h=>absurd ⟨h.1,by omega⟩ hja,fun _=>?_⟩
  rw [Bool.eq_iff_iff]
  simp only [Bool.and_eq_true,Bool.or_eq_true,decide_eq_true_eq]
  omega
end T
end
section
namespace T
def outI (ss:List DStop) (r:Int) (a b:Nat):Nat→List DStop
 | 0=>[]
 | j+1=>outI ss r a b j ++ ((if j=a then [(r,true)] else []) ++ ((if j=b then [(r,false)] else []) ++ if j < ss.length then [ss.getD j dStop] else []))
theorem take_s {ss:List DStop} {j:Nat} (h:j < ss.length):ss.take j ++ [ss.getD j dStop]=ss.take (j+1):=by
 rw [List.take_succ_eq_append_getElem h,List.getD_eq_getElem?_getD,List.getElem?_eq_getElem h];rfl
theorem outI_1 {ss:List DStop} {r:Int} {a b:Nat} (hab:a≤b) (hb:b≤ss.length):∀ j,j≤a→outI ss r a b j=ss.take j
 | 0,_=>rfl
 | j+1,h=>by
  unfold outI
  rw [outI_1 hab hb j (by omega),if_neg (by omega),if_neg (by omega),if_pos (by omega),List.nil_append,List.nil_append,take_s (by omega)]
theorem mid_s {ss:List DStop} {a j:Nat} (h:j < ss.length) (ha:a≤j):(ss.take j).drop a ++ [ss.getD j dStop]=(ss.take (j+1)).drop a:=by
 rw [← take_s h,List.drop_append_of_le_length (by rw [List.length_take];omega)]
theorem outI_2 {ss:List DStop} {r:Int} {a b:Nat} (hab:a≤b) (hb:b≤ss.length):∀ d,a+(d+1)≤b→outI ss r a b (a+(d+1))=ss.take a ++ ([(r,true)] ++ (ss.take (a+(d+1))).drop a)
 | 0,h=>by
  show outI ss r a b (a+1)=_
  unfold outI
  rw [outI_1 hab hb a (Nat.le_refl _),if_pos rfl,if_neg (by omega),if_pos (by omega),List.nil_append,← mid_s (a:=a) (j:=a) (by omega) (Nat.le_refl _),List.drop_take,Nat.sub_self,List.take_zero,List.nil_append]
 | d+1,h=>by
  show outI ss r a b (a+(d+1)+1)=_
  unfold outI
  rw [outI_2 hab hb d (by omega),if_neg (by omega),if_neg (by omega),if_pos (by omega),List.nil_append,List.nil_append,show a+(d+1+1)=a+(d+1)+1 by omega,← mid_s (a:=a) (j:=a+(d+1)) (by omega) (by omega)]
  simp only [List.append_assoc]
theorem outI_b {ss:List DStop} {r:Int} {a b:Nat} (hab:a≤b) (hb:b≤ss.length):outI ss r a b b ++ (if b=a then [(r,true)] else [])=ss.take a ++ ([(r,true)] ++ (ss.take b).drop a):=by
 rcases Nat.lt_or_ge a b with c | c
 ·have:=outI_2 (r:=r) hab hb (b - a - 1) (by omega)
  rw [show a+(b - a - 1+1)=b by omega] at this
  rw [this,if_neg (by omega),List.append_nil]
 ·obtain rfl:a=b:=by omega
  rw [outI_1 hab hb a (Nat.le_refl _),if_pos rfl,List.drop_take,Nat.sub_self,List.take_zero,List.append_nil]
theorem outI_3 {ss:List DStop} {r:Int} {a b:Nat} (hab:a≤b) (hb:b≤ss.length):∀ d,b+(d+1)≤ss.length+1→outI ss r a b (b+(d+1))=ss.take a ++ ([(r,true)] ++ ((ss.take b).drop a ++ ([(r,false)] ++ (ss.take (b+(d+1))).drop b)))
 | 0,h=>by
  show outI ss r a b (b+1)=_
  unfold outI
  rw [← List.append_assoc,outI_b hab hb,if_pos rfl]
  by_cases c:b < ss.length
  ·rw [if_pos c,← mid_s (a:=b) (j:=b) c (Nat.le_refl _),List.drop_take,List.drop_take,Nat.sub_self,List.take_zero,List.nil_append]
   simp only [List.append_assoc]
  ·rw [if_neg c,List.drop_of_length_le (i:=b) (by rw [List.length_take];omega)]
   simp only [List.append_assoc]
 | d+1,h=>by
  show outI ss r a b (b+(d+1)+1)=_
  unfold outI
  rw [outI_3 hab hb d (by omega),if_neg (by omega),if_neg (by omega),List.nil_append,List.nil_append,show b+(d+1+1)=b+(d+1)+1 by omega]
  by_cases c:b+(d+1) < ss.length
  ·rw [if_pos c,← mid_s (a:=b) (j:=b+(d+1)) c (by omega)]
   simp only [List.append_assoc]
  ·rw [if_neg c,List.append_nil,List.take_of_length_le (i:=b+(d+1)) (by omega),List.take_of_length_le (i:=b+(d+1)+1) (by omega)]
theorem outI_all {ss:List DStop} {r:Int} {a b:Nat} (hab:a≤b) (hb:b≤ss.length):outI ss r a b (ss.length+1)=stopsI ss r a b:=by
 have h:=outI_3 (r:=r) hab hb (ss.length - b) (by omega)
 rw [show b+(ss.length - b+1)=ss.length+1 by omega,List.take_of_length_le (i:=ss.length+1) (by omega)] at h
 rw [h]
 unfold stopsI
 rw [if_neg (by omega),Int.toNat_natCast,Int.toNat_natCast]
 unfold insF
 have hl:(ss.take b).length=b:=by rw [List.length_take];omega
 rw [List.append_assoc (ss.take b) [(r,false)] (ss.drop b),List.take_append_of_le_length (by omega),List.take_take,Nat.min_eq_left hab,List.drop_append_of_le_length (by omega)]
 simp only [List.append_assoc]
theorem outI_len {ss:List DStop} {r:Int} {a b:Nat}:∀ j,(outI ss r a b j).length≤3 * j
 | 0=>Nat.zero_le _
 | j+1=>by
  have:=outI_len (ss:=ss) (r:=r) (a:=a) (b:=b) j
  unfold outI
  simp only [List.length_append]
  have h1:(if j=a then [(r,true)] else []:List DStop).length≤1:=by split <;> simp
  have h2:(if j=b then [(r,false)] else []:List DStop).length≤1:=by split <;> simp
  have h3:(if j < ss.length then [ss.getD j dStop] else []).length≤1:=by split <;> simp
  omega
end T
end
section
open Go.RowKit Go.IntWalk
namespace T
def entClF:Ent:=⟨38,.cons (.sl (.st (.cons (.int .i64) .bool))) .nil,(.sl (.st (.cons (.int .i64) .bool))),false,some 72,fun x=>List.length (α:=DStop) x.1≤1000000,fun x=>x.1⟩
def csClF:List Ent:=[] theorem hcsClF (f:FuncId):findEnt csClF f=findEnt [] f:=rfl
theorem conClF:Con Tryz.prog entClF:=by
 refine con_is (C:=csClF) x38 (by kernel_rfl) (by simp [csClF]) fun x hx hf=>?_
 obtain ⟨(S:List DStop),_⟩:=x
 have hS:S.length≤1000000:=hx
 dsimp only [entClF,x38,Z8,Za,Zg];simp only [↓hcsClF,go_sem,YA,YS,YM,YL,YE,YD,YB,YN,YR,reduceIte,reduceCtorEq,↓reduceIte];try simp only [td,reduceCtorEq]
 exact ⟨fun q=>q.symm,by omega⟩
def entIst:Ent:=⟨16,.cons (.sl (.st (.cons (.int .i64) .bool))) (.cons (.int .i64) (.cons (.int .i64) (.cons (.int .i64) .nil))),(.sl (.st (.cons (.int .i64) .bool))),false,none,fun x=>List.length (α:=DStop) x.1≤1000,fun x=>stopsI x.1 x.2.1 x.2.2.1 x.2.2.2.1⟩
def csIst:List Ent:=[entClF,entInsStop] theorem hcsIst (f:FuncId):findEnt csIst f=findEnt [entClF,entInsStop] f:=rfl
theorem conIst:Con Tryz.prog entIst:=by
 refine con_is (C:=csIst) x16 (by kernel_rfl) (by simp [csIst,conClF,conInsStop]) fun x hx hf=>?_
 obtain ⟨(ss:List DStop),(r:Int),(a:Int),(b:Int),_⟩:=x
 have hl:ss.length≤1000:=hx
 dsimp only [entIst,x16,Z1,Z8,Za,Zb,Zc,Ze,Zg]
 by_cases h:a < 0∨b < a∨(ss.length:Int) < b
 ·have e:stopsI ss r a b=[]:=by unfold stopsI;rw [if_pos h]
  have e2:(decide (a < 0) || decide (b < a) || decide (b > (ss.length:Int)))=true:=by
   simp only [Bool.or_eq_true,decide_eq_true_eq];omega
  by_cases h1:a < 0
  ·simp only [↓hcsIst,entClF,entInsStop,undef,e,h1,go_sem,YA,YS,YM,YL,YE,YD,YB,YN,YR,reduceIte,reduceCtorEq,↓reduceIte]
   try simp only [e,h1,td,reduceCtorEq]
  by_cases h2:b < a
  ·simp only [↓hcsIst,entClF,entInsStop,undef,e,h1,h2,go_sem,YA,YS,YM,YL,YE,YD,YB,YN,YR,reduceIte,reduceCtorEq,↓reduceIte]
   try simp only [e,h1,h2,td,reduceCtorEq]
  have h3:(ss.length:Int) < b:=by omega
  have h4:b > (ss.length:Int):=h3
  simp only [↓hcsIst,entClF,entInsStop,undef,e,h1,h2,h3,h4,go_sem,YA,YS,YM,YL,YE,YD,YB,YN,YR,reduceIte,reduceCtorEq,↓reduceIte]
  try simp only [e,h1,h2,h3,h4,td,reduceCtorEq]
 ·have h1:¬ a < 0:=by omega
  have h2:¬ b < a:=by omega
  have h3:¬ (ss.length:Int) < b:=by omega
  have h4:¬ b > (ss.length:Int):=h3
  have a0:0≤a:=by omega
  have b0:0≤b:=by omega
  have b1:b≤(ss.length:Int):=by omega
  have hi:=insF_len ss (k:=b.toNat) (by omega) (r,false)
  have a1:a≤((insF ss b.toNat [(r,false)]).length:Int):=by omega
  have l1:ss.length≤1000000:=by omega
  have l2:(insF ss b.toNat [(r,false)]).length≤1000000:=by omega
  have e:stopsI ss r a b=insF (insF ss b.toNat [(r,false)]) a.toNat [(r,true)]:=by unfold stopsI;rw [if_neg h]
  rw [e]
  simp only [↓hcsIst,entClF,entInsStop,undef,h1,h2,h3,h4,a0,b0,b1,a1,l1,l2,go_sem,YA,YS,YM,YL,YE,YD,YB,YN,YR,reduceIte,reduceCtorEq,↓reduceIte]
  try simp only [h1,h2,h3,h4,a0,b0,b1,a1,l1,l2,td,reduceCtorEq]
def entIdxFuncStp:Ent:=⟨120,.cons (.sl (.st (.cons (.int .i64) .bool))) (.cons (.fn (.st (.cons (.int .i64) .bool)) .bool) .nil),(.int .i64),false,none,fun _=>True,fun x=>idxF x.2.1 x.1⟩
theorem conIdxFuncStp:Con Tryz.prog entIdxFuncStp:=by
 refine con_is (C:=[]) x120 (by kernel_rfl) (by simp) fun x _ hf=>?_
 obtain ⟨(xs:List DStop),(p:DStop→Bool),_⟩:=x
 have hl:xs.length≤maxLen:=hf.1.1
 dsimp only [entIdxFuncStp,x120,Zb];simp only [go_sem,YA,YS,YM,YL,YE,YD,YB,YN,YR,reduceIte,reduceCtorEq,↓reduceIte]
 refine XW_for 1000 x120_0d [] Nat (fun k=>[(8,.val (.int .i64) (k:Int))]) (fun _=>[]) (fun k=>k≤xs.length∧∀ j,j < k→p (xs.getD j dStop)=false) (fun k=>xs.length - k) 0 ?_ ?_ ?_
 ·dsimp only [x120_0d];simp only [go_sem,YA,YS,YM,YL,YE,YD,YB,YN,YR,reduceIte,reduceCtorEq,↓reduceIte]
  rfl
 ·exact ⟨by omega,fun j hj=>by omega⟩
 ·intro k hk
  dsimp only [x120_0,x120_0d,Z8,Za,Zg];simp only [go_sem,YA,YS,YM,YL,YE,YD,YB,YN,YR,reduceIte,reduceCtorEq,↓reduceIte]
  dsimp only [maxLen] at hl
  by_cases hkl:k < xs.length
  ·simp only [hkl,td,reduceCtorEq]
   refine ⟨fun h=>(idxF_at hkl hk.2 h).symm,fun h=>⟨k+1,by omega,⟨by omega,fun j hj=>?_⟩,i64_in _ (by omega)⟩⟩
   rcases Nat.lt_succ_iff_lt_or_eq.1 hj with h' | rfl
   ·exact hk.2 j h'
   ·exact h
  ·simp only [hkl,td,reduceCtorEq]
   exact (idxF_none fun j hj=>hk.2 j (by omega)).symm
def entConFuncStp:Ent:=⟨65,.cons (.sl (.st (.cons (.int .i64) .bool))) (.cons (.fn (.st (.cons (.int .i64) .bool)) .bool) .nil),.bool,false,none,fun _=>True,fun x=>x.1.any x.2.1⟩
theorem conConFuncStp:Con Tryz.prog entConFuncStp:=by
 refine con_is (C:=[entIdxFuncStp]) x65 (by kernel_rfl) (by simp [conIdxFuncStp]) fun x _ hf=>?_
 obtain ⟨(xs:List DStop),(p:DStop→Bool),_⟩:=x
 dsimp only [entConFuncStp,entIdxFuncStp,x65,Za];simp only [go_sem,YA,YS,YM,YL,YE,YD,YB,YN,YR,reduceIte,reduceCtorEq,↓reduceIte]
 refine eq_of_iff ?_
 rw [← idxF_any]
 simp
def entEr1:Ent:=⟨64,.cons (.st (.cons (.int .i64) .bool)) (.cons (.ptr (.int .i64)) .nil),.bool,false,none,fun _=>True,fun x=>decide ((x.1:DStop).1=x.2.1)⟩
def csEr1:List Ent:=[] theorem hcsEr1 (f:FuncId):findEnt csEr1 f=findEnt [] f:=rfl
theorem conEr1:Con Tryz.prog entEr1:=by
 refine con_is (C:=csEr1) x64 (by kernel_rfl) (by simp [csEr1]) fun x hx hf=>?_
 obtain ⟨⟨(n:Int),(b:Bool)⟩,(m:Int),_⟩:=x
 dsimp only [entEr1,x64,Z1,Zb];simp only [↓hcsEr1,go_sem,YA,YS,YM,YL,YE,YD,YB,YN,YR,reduceIte,reduceCtorEq,↓reduceIte];try simp only [td,reduceCtorEq]
 rfl
def entErr:Ent:=⟨29,.cons (.st (.cons (.int .i64) (.cons (.sl (.st (.cons (.int .i64) (.cons (.int .i64) (.cons (.sl (.int .i64)) (.sl (.int .i64))))))) (.cons (.sl (.st (.cons (.int .i64) (.cons (.int .i64) (.cons (.int .i64) (.cons (.int .i64) (.cons (.int .i64) (.cons (.int .i64) (.cons (.int .i64) (.cons (.int .i64) (.int .i64))))))))))) (.cons (.sl (.st (.cons (.int .i64) (.cons (.int .i64) (.cons (.int .i64) (.cons (.int .i64) (.cons (.int .i64) (.cons (.int .i64) (.cons (.int .i64) (.cons (.int .i64) (.cons (.int .i64) (.int .i64)))))))))))) (.cons (.sl (.st (.cons (.int .i64) (.cons (.int .i64) .bool)))) (.st (.cons (.int .i64) (.cons (.int .i64) (.int .i64)))))))))) (.cons (.st (.cons (.int .i64) (.cons (.sl (.st (.cons (.int .i64) .bool))) (.cons (.sl (.st (.cons (.int .i64) (.int .i64)))) (.sl (.int .i64)))))) (.cons (.int .i64) .nil)),(.int .i64),false,none,fun x=>List.length (α:=DStop) (x.2.1:DPlan).2.1≤22,fun x=>errI x.1 x.2.1 x.2.2.1⟩
def csErr:List Ent:=[entPlR,entCkP,entConFuncStp,entEr1] theorem hcsErr (f:FuncId):findEnt csErr f=findEnt [entPlR,entCkP,entConFuncStp,entEr1] f:=rfl
theorem conErr:Con Tryz.prog entErr:=by
 refine con_is (C:=csErr) x29 (by kernel_rfl) (by simp [csErr,conPlR,conCkP,conConFuncStp,conEr1]) fun x hx hf=>?_
 obtain ⟨⟨(N:Int),(A:List DArc),(C:List DCar),(Q:List DReq),(R:List DPair),(S1:Int),(S2:Int),(S3:Int)⟩,⟨(c:Int),(ss:List DStop),(L:List DLeg),(G:List Int)⟩,(r:Int),_⟩:=x
 have hl:ss.length≤22:=hx
 have hl':ss.length≤24:=by omega
 dsimp only [entErr,x29,Z1,Z19,Z20,Z23,Z7,Za,Zb,Zc,Ze,Zg]
 have hE:errI (N,A,C,Q,R,S1,S2,S3) (c,ss,L,G) r=if rightP (N,A,C,Q,R,S1,S2,S3)=false∨checkP (N,A,C,Q,R,S1,S2,S3) (c,ss,L,G)≠0∨r < 0∨(Q.length:Int)≤r∨(ss.any fun s=>decide (s.1=r))=true then 1 else 0:=rfl
 have h78:¬ (ss.length:Int) > 78:=by omega
 cases h1:rightP (N,A,C,Q,R,S1,S2,S3)
 ·rw [h1,if_pos (.inl rfl)] at hE
  simp only [↓hcsErr,entPlR,entCkP,entConFuncStp,entEr1,undef,hE,h1,hl',h78,go_sem,YA,YS,YM,YL,YE,YD,YB,YN,YR,reduceIte,reduceCtorEq,↓reduceIte]
  try simp only [hE,h1,hl',h78,td,reduceCtorEq]
 by_cases h2:checkP (N,A,C,Q,R,S1,S2,S3) (c,ss,L,G)=0
 ·by_cases h3:r < 0
  ·rw [if_pos (.inr (.inr (.inl h3)))] at hE
   simp only [↓hcsErr,entPlR,entCkP,entConFuncStp,entEr1,undef,hE,h1,h2,h3,hl',h78,go_sem,YA,YS,YM,YL,YE,YD,YB,YN,YR,reduceIte,reduceCtorEq,↓reduceIte]
   try simp only [hE,h1,h2,h3,hl',h78,td,reduceCtorEq]
  by_cases h4:(Q.length:Int)≤r
  ·rw [if_pos (.inr (.inr (.inr (.inl h4))))] at hE
   have h4':r ≥ (Q.length:Int):=h4
   simp only [↓hcsErr,entPlR,entCkP,entConFuncStp,entEr1,undef,hE,h1,h2,h3,h4,h4',hl',h78,go_sem,YA,YS,YM,YL,YE,YD,YB,YN,YR,reduceIte,reduceCtorEq,↓reduceIte]
   try simp only [hE,h1,h2,h3,h4,h4',hl',h78,td,reduceCtorEq]
  have h4':¬ r ≥ (Q.length:Int):=h4
  cases h5:(ss.any fun s=>decide (s.1=r))
  ·rw [if_neg (by rw [h1,h5];rintro (q | q | q | q | q) <;> first | exact h3 q | exact h4 q | exact q h2 | cases q)] at hE
   simp only [↓hcsErr,entPlR,entCkP,entConFuncStp,entEr1,undef,hE,h1,h2,h3,h4,h4',h5,hl',h78,go_sem,YA,YS,YM,YL,YE,YD,YB,YN,YR,reduceIte,reduceCtorEq,↓reduceIte]
   try simp only [hE,h1,h2,h3,h4,h4',h5,hl',h78,td,reduceCtorEq]
  ·rw [if_pos (.inr (.inr (.inr (.inr h5))))] at hE
   simp only [↓hcsErr,entPlR,entCkP,entConFuncStp,entEr1,undef,hE,h1,h2,h3,h4,h4',h5,hl',h78,go_sem,YA,YS,YM,YL,YE,YD,YB,YN,YR,reduceIte,reduceCtorEq,↓reduceIte]
   try simp only [hE,h1,h2,h3,h4,h4',h5,hl',h78,td,reduceCtorEq]
 ·rw [if_pos (.inr (.inl h2))] at hE
  simp only [↓hcsErr,entPlR,entCkP,entConFuncStp,entEr1,undef,hE,h1,h2,hl',h78,go_sem,YA,YS,YM,YL,YE,YD,YB,YN,YR,reduceIte,reduceCtorEq,↓reduceIte]
  try simp only [hE,h1,h2,hl',h78,td,reduceCtorEq]
def entNmd:Ent:=⟨31,.cons (.sl (.st (.cons (.int .i64) .bool))) (.cons (.int .i64) .nil),.bool,false,none,fun _=>True,fun x=>namedI x.1 x.2.1⟩
def csNmd:List Ent:=[] theorem hcsNmd (f:FuncId):findEnt csNmd f=findEnt [] f:=rfl
theorem conNmd:Con Tryz.prog entNmd:=by
 refine con_is (C:=csNmd) x31 (by kernel_rfl) (by simp [csNmd]) fun x hx hf=>?_
 obtain ⟨(ss:List DStop),(r:Int),_⟩:=x
 have hm:ss.length≤maxLen:=hf.1.1
 dsimp only [maxLen] at hm
 dsimp only [entNmd,x31];simp only [↓hcsNmd,go_sem,YA,YS,YM,YL,YE,YD,YB,YN,YR,reduceIte,reduceCtorEq,↓reduceIte];try simp only [td,reduceCtorEq]
 have hd:∀ j,(∀ i,i < j→(ss.getD i dStop).1≠r)→ss.length≤j→namedI ss r=false:=fun j h hj=>by
  unfold namedI
  rw [List.any_eq_false]
  intro s hs
  obtain ⟨i,hi,rfl⟩:=List.getElem_of_mem hs
  have:=h i (by omega)
  simp only [List.getD,List.getElem?_eq_getElem hi,Option.getD_some] at this
  simpa using this
 have hy:∀ j,j < ss.length→(ss.getD j dStop).1=r→namedI ss r=true:=fun j hj h=>List.any_eq_true.2 ⟨_,getD_mem2 hj,decide_eq_true h⟩
 refine XW_for 1000 x31_0d [] Nat (fun j=>[(5,.val (.int .i64) (j:Int))]) (fun _=>[]) (fun j=>j≤ss.length∧∀ i,i < j→(ss.getD i dStop).1≠r) (fun j=>ss.length - j) 0 ?_ ?_ ?_
 ·dsimp only [x31_0d];simp only [go_sem,YA,YS,YM,YL,YE,YD,YB,YN,YR,reduceIte,reduceCtorEq,↓reduceIte];try trivial
 ·exact ⟨Nat.zero_le _,fun i hi=>by omega⟩
 rintro j ⟨hj,hn⟩
 have w2:j < ss.length→IntKind.i64.wrap ((j:Int)+1)=((j+1:Nat):Int):=fun h=>i64_in _ (by omega)
 dsimp only [x31_0,x31_0d,Z1,Z8,Za,Zb]
 simp only [↓hcsNmd,undef,go_sem,YA,YS,YM,YL,YE,YD,YB,YN,YR,reduceIte,reduceCtorEq,↓reduceIte]
 try simp only [td,reduceCtorEq]
 refine ⟨fun hj'=>⟨hj',fun h=>?_,fun h=>⟨j+1,by omega,⟨hj',fun i hi=>?_⟩,w2 hj'⟩⟩,fun hj'=>?_⟩
 ·rw [hy j hj' h]
 ·rcases Nat.lt_or_ge i j with q | q
  ·exact hn i q
  ·rw [show i=j by omega];exact h
 ·rw [hd j hn (by omega)]
end T
end
section
namespace T
theorem tm_0 (g t:List Int):tmF g t 0=if 0 < g.getD 0 0 then g.getD 0 0 else 0:=rfl
theorem tm_s (g t:List Int) (k:Nat):tmF g t (k+1)=if tmF g t k+t.getD k 0 < g.getD (k+1) 0 then g.getD (k+1) 0 else tmF g t k+t.getD k 0:=rfl
theorem tm_ge (g t:List Int):∀ k,g.getD k 0≤tmF g t k
 | 0=>by rw [tm_0];split <;> omega
 | k+1=>by rw [tm_s];split <;> omega
theorem tm_mono {g t u:List Int}:∀ k,(∀ j,j < k→t.getD j 0≤u.getD j 0)→tmF g t k≤tmF g u k
 | 0,_=>Int.le_refl _
 | k+1,h=>by
  have h1:=tm_mono (g:=g) k (fun j hj=>h j (by omega))
  have h2:=h k (by omega)
  rw [tm_s,tm_s]
  split <;> split <;> omega
theorem tm_short {g t:List Int} {L:List DLeg} {k:Nat}:∀ d,(∀ j,k≤j→j < k+d→t.getD j 0≤(L.getD j (0,0)).2)→tmF g t (k+d)≤tmF g t k+(psF L (k+d) - psF L k)∨∃ i,i < d∧tmF g t (k+d)≤g.getD (k+1+i) 0+(psF L (k+d) - psF L (k+1+i))
 | 0,_=>by rw [Nat.add_zero];exact .inl (by omega)
 | d+1,h=>by
  have h2:=h (k+d) (by omega) (by omega)
  have e:psF L (k+d+1)=psF L (k+d)+(L.getD (k+d) (0,0)).2:=rfl
  rw [← Nat.add_assoc,tm_s,e]
  split
  ·exact .inr ⟨d,by omega,by rw [show k+1+d=k+d+1 by omega,e];omega⟩
  ·rcases tm_short (g:=g) d (fun j h1 h2=>h j h1 (by omega)) with h1 | ⟨i,hi,h1⟩
   ·exact .inl (by omega)
   ·exact .inr ⟨i,by omega,by omega⟩
theorem cut_getD {l h:List Int} {k j:Nat} (hl:l.length=h.length) (hk:k≤l.length):(l.take k ++ h.drop k).getD j 0=if j < k then l.getD j 0 else h.getD j 0:=by
 have e:(l.take k).length=k:=by rw [List.length_take];omega
 simp only [List.getD]
 split
 ·rename_i c
  rw [List.getElem?_append_left (by omega),List.getElem?_take_of_lt c]
 ·rename_i c
  rw [List.getElem?_append_right (by omega),e,List.getElem?_drop,show k+(j - k)=j by omega]
theorem cut_len {l h:List Int} {k:Nat} (hl:l.length=h.length) (hk:k≤l.length):(l.take k ++ h.drop k).length=l.length:=by
 rw [List.length_append,List.length_take,List.length_drop];omega
theorem cut_took {c:DChain} (h:rightC c=true) {k:Nat} (hk:k≤c.2.1.length):tookB c.2.1 ((lowsF c.2.1).take k ++ (highsF c.2.1).drop k)=true:=by
 have hl:(lowsF c.2.1).length=(highsF c.2.1).length:=by rw [lows_len,highs_len]
 have hk':k≤(lowsF c.2.1).length:=by rw [lows_len];exact hk
 refine tookB_iff.2 ⟨by rw [cut_len hl hk',lows_len],fun j hj=>?_⟩
 have h1:=right_leg h hj
 rw [cut_getD hl hk',lows_getD,highs_getD]
 split <;> omega
theorem cut_run {c:DChain} {g:List Int} (h:fitsG c g=true) {k:Nat} (hk:k≤c.2.1.length):(rnF c g ((lowsF c.2.1).take k ++ (highsF c.2.1).drop k)).1=playF g ((lowsF c.2.1).take k ++ (highsF c.2.1).drop k):=by
 unfold rnF
 rw [if_pos ⟨h,cut_took (fitsG_iff.1 h).1 hk⟩]
theorem keeps20_iff {c:DChain} {g:List Int}:keeps20 c g=true ↔ (cutF c g (lowsF c.2.1) (highsF c.2.1) 0=true∧cutF c g (lowsF c.2.1) (highsF c.2.1) c.2.1.length=true)∧∀ r ∈ c.2.2,cutF c g (lowsF c.2.1) (highsF c.2.1) r.1.toNat=true:=by
 unfold keeps20
 simp only [Bool.and_eq_true,List.all_eq_true]
theorem keep_mk {c:DChain} {g t:List Int} (h:rightC c=true) (ht:t.length=c.2.1.length) (hw:∀ k,k < c.1.length→(c.1.getD k (0,0)).1≤tmF g t k∧tmF g t k≤(c.1.getD k (0,0)).2) (hr:∀ r ∈ c.2.2,tmF g t r.2.1.toNat - tmF g t r.1.toNat≤r.2.2):keepsF c (playF g t)=true:=by
 have h1:=(rightC_iff.1 h).1
 refine keepsF_iff.2 ⟨h,by rw [playF_len];omega,fun k hk=>?_,fun r hr'=>?_⟩
 ·rw [playF_getD g t (by omega)];exact hw k hk
 ·have h4:=(rightC_iff.1 h).2.2.2 r hr'
  rw [playF_getD g t (by omega),playF_getD g t (by omega)];exact hr r hr'
theorem mF_ge {c:DChain} {k:Nat} {rest:List Int} {r:DRide} {a:Int}:∀ n,a≤mF c k rest r a n∧∀ i,i < n→rest.getD i 0+(psF c.2.1 r.2.1.toNat - psF c.2.1 (k+1+i)) - r.2.2≤mF c k rest r a n
 | 0=>⟨Int.le_refl _,fun i hi=>by omega⟩
 | n+1=>by
  obtain ⟨h1,h2⟩:=mF_ge (c:=c) (k:=k) (rest:=rest) (r:=r) (a:=a) n
  have h3:=maxI_ge (mF c k rest r a n) (rest.getD n 0+(psF c.2.1 r.2.1.toNat - psF c.2.1 (k+1+n)) - r.2.2)
  refine ⟨Int.le_trans h1 h3.1,fun i hi=>?_⟩
  rcases Nat.lt_or_ge i n with c' | c'
  ·exact Int.le_trans (h2 i c') h3.1
  ·obtain rfl:i=n:=by omega
   exact h3.2.1
theorem rF_ge {c:DChain} {k:Nat} {rest:List Int} {a:Int} {r:DRide}:a≤rF c k rest a r∧(r.1=k→∀ i,i < r.2.1.toNat - k→rest.getD i 0+(psF c.2.1 r.2.1.toNat - psF c.2.1 (k+1+i)) - r.2.2≤rF c k rest a r):=by
 unfold rF
 split
 ·have:=mF_ge (c:=c) (k:=k) (rest:=rest) (r:=r) (a:=a) (r.2.1.toNat - k)
  exact ⟨this.1,fun _=>this.2⟩
 ·rename_i h;exact ⟨Int.le_refl _,fun q=>absurd q h⟩
theorem rFold_ge {c:DChain} {k:Nat} {rest:List Int}:∀ (l:List DRide) (a:Int),a≤l.foldl (rF c k rest) a∧∀ r ∈ l,r.1=k→∀ i,i < r.2.1.toNat - k→rest.getD i 0+(psF c.2.1 r.2.1.toNat - psF c.2.1 (k+1+i)) - r.2.2≤l.foldl (rF c k rest) a
 | [],a=>⟨Int.le_refl _,fun r hr=>absurd hr List.not_mem_nil⟩
 | x :: l,a=>by
  obtain ⟨h1,h2⟩:=rFold_ge (c:=c) (k:=k) (rest:=rest) l (rF c k rest a x)
  have h3:=rF_ge (c:=c) (k:=k) (rest:=rest) (a:=a) (r:=x)
  refine ⟨Int.le_trans h3.1 h1,fun r hr e i hi=>?_⟩
  rcases List.mem_cons.1 hr with rfl | hr
  ·exact Int.le_trans (h3.2 e i hi) h1
  ·exact h2 r hr e i hi
theorem gs_shift (c:DChain) (j:Nat):∀ i q,(gsF c (j+i)).getD (i+q) 0=(gsF c j).getD q 0
 | 0,q=>by rw [Nat.zero_add];rfl
 | i+1,q=>by
  have:=gs_shift c j i q
  show (gkF c _ (gsF c (j+i)) :: gsF c (j+i)).getD (i+1+q) 0=_
  rw [show i+1+q=(i+q)+1 by omega,List.getD_cons_succ]
  exact this
def gsA (c:DChain) (k:Nat):Int:=(gsF c c.1.length).getD k 0
theorem gsA_rest (c:DChain) {k:Nat} (hk:k < c.1.length) (q:Nat):(gsF c (c.1.length - (k+1))).getD q 0=gsA c (k+1+q):=by
 have:=gs_shift c (c.1.length - (k+1)) (k+1) q
 rw [show c.1.length - (k+1)+(k+1)=c.1.length by omega] at this
 exact this.symm
theorem gsA_eq (c:DChain) {k:Nat} (hk:k < c.1.length):gsA c k=gkF c k (gsF c (c.1.length - (k+1))):=by
 have:=gs_shift c (c.1.length - k) k 0
 rw [show c.1.length - k+k=c.1.length by omega,gs_step c hk,List.getD_cons_zero] at this
 exact this
theorem gsA_ge {c:DChain} {k:Nat} (hk:k < c.1.length):(c.1.getD k (0,0)).1≤gsA c k∧∀ r ∈ c.2.2,r.1=k→∀ i,i < r.2.1.toNat - k→gsA c (k+1+i)+(psF c.2.1 r.2.1.toNat - psF c.2.1 (k+1+i)) - r.2.2≤gsA c k:=by
 rw [gsA_eq c hk]
 obtain ⟨h1,h2⟩:=rFold_ge (c:=c) (k:=k) (rest:=gsF c (c.1.length - (k+1))) c.2.2 (c.1.getD k (0,0)).1
 refine ⟨h1,fun r hr e i hi=>?_⟩
 rw [← gsA_rest c hk]
 exact h2 r hr e i hi
theorem guard_keeps {c:DChain} (h:(guardF c).2=0) {t:List Int} (ht:tookB c.2.1 t=true):keepsF c (playF (guardF c).1 t)=true:=by
 unfold guardF at h ⊢
 by_cases h1:rightC c=false
 ·rw [if_pos h1] at h;cases h
 by_cases h2:c.2.2.any (lateR c)=true
 ·rw [if_neg h1,if_pos h2] at h;cases h
 by_cases h3:inTime c (playF (gsF c c.1.length) (highsF c.2.1))=false
 ·rw [if_neg h1,if_neg h2,if_pos h3] at h;cases h
 rw [if_neg h1,if_neg h2,if_neg h3]
 show keepsF c (playF (gsF c c.1.length) t)=true
 have hr:rightC c=true:=by rwa [Bool.not_eq_false] at h1
 have hn:=(rightC_iff.1 hr).1
 rw [Bool.not_eq_false] at h3
 have hl:=late_none h2
 obtain ⟨t1,t2⟩:=tookB_iff.1 ht
 refine keep_mk hr t1 (fun k hk=>⟨Int.le_trans (gsA_ge hk).1 (tm_ge _ _ k),?_⟩) fun r hr'=>?_
 ·have h4:=inTime_iff.1 h3 k (by rw [playF_len,highs_len];omega)
  rw [playF_getD _ _ (by rw [highs_len];omega)] at h4
  refine Int.le_trans (tm_mono k fun j hj=>?_) h4
  rw [highs_getD]
  exact (t2 j (by omega)).2
 ·have h4:=(rightC_iff.1 hr).2.2.2 r hr'
  have h5:=hl r hr'
  unfold lateR at h5
  have h5:=of_decide_eq_false h5
  have h6:=tm_short (g:=gsF c c.1.length) (t:=t) (L:=c.2.1) (k:=r.1.toNat) (r.2.1.toNat - r.1.toNat) (fun j h1 h2=>(t2 j (by omega)).2)
  rw [show r.1.toNat+(r.2.1.toNat - r.1.toNat)=r.2.1.toNat by omega] at h6
  rcases h6 with h6 | ⟨i,hi,h6⟩
  ·omega
  ·have h7:=(gsA_ge (c:=c) (k:=r.1.toNat) (by omega)).2 r hr' (by omega) i hi
   have h8:=tm_ge (gsF c c.1.length) t r.1.toNat
   unfold gsA at h7
   omega
end T
end
section
namespace T
theorem guard_ok {c:DChain} (h:(guardF c).2=0):rightC c=true∧(guardF c).1=gsF c c.1.length∧∀ r ∈ c.2.2,lateR c r=false:=by
 unfold guardF at h ⊢
 by_cases h1:rightC c=false
 ·rw [if_pos h1] at h;cases h
 by_cases h2:c.2.2.any (lateR c)=true
 ·rw [if_neg h1,if_pos h2] at h;cases h
 by_cases h3:inTime c (playF (gsF c c.1.length) (highsF c.2.1))=false
 ·rw [if_neg h1,if_neg h2,if_pos h3] at h;cases h
 rw [if_neg h1,if_neg h2,if_neg h3]
 exact ⟨by rwa [Bool.not_eq_false] at h1,rfl,late_none h2⟩
theorem guard_keeps20 {c:DChain} (h:(guardF c).2=0):keeps20 c (guardF c).1=true:=by
 have hf:=guard_fits h
 have hr:=(fitsG_iff.1 hf).1
 have hn:=(rightC_iff.1 hr).1
 have hc:∀ k,k≤c.2.1.length→cutF c (guardF c).1 (lowsF c.2.1) (highsF c.2.1) k=true:=fun k hk=>by
  unfold cutF
  rw [cut_run hf hk]
  exact guard_keeps h (cut_took hr hk)
 refine keeps20_iff.2 ⟨⟨hc 0 (Nat.zero_le _),hc _ (Nat.le_refl _)⟩,fun r hr'=>?_⟩
 have h4:=(rightC_iff.1 hr).2.2.2 r hr'
 exact hc _ (by omega)
theorem made_ok {w:DWorld} {c:Int} {ss:List DStop} (h:(makeF w c ss).2=0):(chainF w c ss).2=0∧checkP w (makeF w c ss).1=0∧(makeF w c ss).1.1=c∧(makeF w c ss).1.2.1=ss∧(makeF w c ss).1.2.2.1=(chainF w c ss).1.2.1:=by
 rw [makeF_eq] at h ⊢
 by_cases h1:(begF w c ss).2≠0
 ·rw [if_pos h1] at h;exact absurd h h1
 by_cases h2:(guardF (begF w c ss).1).2≠0
 ·rw [if_neg h1,if_pos h2] at h;cases h
 by_cases h3:restsF w (begF w c ss).1 (guardF (begF w c ss).1).1=false
 ·rw [if_neg h1,if_neg h2,if_pos h3] at h;cases h
 rw [if_neg h1,if_neg h2,if_neg h3]
 have hb:=beg_ok (Decidable.not_not.1 h1)
 have hg:=Decidable.not_not.1 h2
 obtain ⟨g1,g2,g3⟩:=guard_ok hg
 refine ⟨by rw [← hb];exact Decidable.not_not.1 h1,?_,rfl,rfl,by rw [← hb]⟩
 rw [checkP_eq]
 dsimp only
 have ho:okC w (c,ss,(begF w c ss).1.2.1,(guardF (begF w c ss).1).1) (begF w c ss).1=true:=by
  unfold okC
  dsimp only
  rw [decide_eq_true rfl,g2,gsF_len,decide_eq_true rfl,g1,allIn_within.2 (gs_low g1 g3 _ (Nat.le_refl _))]
  rfl
 rw [if_neg h1,if_neg (by rw [ho];decide),if_neg (by rw [guard_keeps20 hg];decide),if_neg h3]
end T
end
section
namespace T
theorem offI_le (n:Nat):∀ j,offI n j≤(n+1) * j
 | 0=>Nat.zero_le _
 | j+1=>by
  have:=offI_le n j
  unfold offI
  rw [Nat.mul_succ]
  omega
theorem line_ok {w:DWorld} {p:DPlan} {r:Int} {a b:Nat} (h:(makeF w p.1 (stopsI p.2.1 r a b)).2=0):checkP w (makeF w p.1 (stopsI p.2.1 r a b)).1=0∧(endP w (makeF w p.1 (stopsI p.2.1 r a b)).1).2=0∧lineI w p r a b=((a:Int),(b:Int),0,(endP w (makeF w p.1 (stopsI p.2.1 r a b)).1).1):=by
 have hc:=(made_ok h).2.1
 refine ⟨hc,?_,?_⟩
 ·rw [endP_eq,if_neg (Decidable.not_not.2 hc)]
 ·unfold lineI;rw [if_pos h,h]
theorem line_no {w:DWorld} {p:DPlan} {r:Int} {a b:Nat} (h:(makeF w p.1 (stopsI p.2.1 r a b)).2≠0):lineI w p r a b=((a:Int),(b:Int),(makeF w p.1 (stopsI p.2.1 r a b)).2,0):=by
 unfold lineI;rw [if_neg h]
end T
end
section
open Go.RowKit Go.IntWalk
namespace T
def entBst:Ent:=⟨11,.cons (.st (.cons (.int .i64) (.cons (.sl (.st (.cons (.int .i64) (.cons (.int .i64) (.cons (.sl (.int .i64)) (.sl (.int .i64))))))) (.cons (.sl (.st (.cons (.int .i64) (.cons (.int .i64) (.cons (.int .i64) (.cons (.int .i64) (.cons (.int .i64) (.cons (.int .i64) (.cons (.int .i64) (.cons (.int .i64) (.int .i64))))))))))) (.cons (.sl (.st (.cons (.int .i64) (.cons (.int .i64) (.cons (.int .i64) (.cons (.int .i64) (.cons (.int .i64) (.cons (.int .i64) (.cons (.int .i64) (.cons (.int .i64) (.cons (.int .i64) (.int .i64)))))))))))) (.cons (.sl (.st (.cons (.int .i64) (.cons (.int .i64) .bool)))) (.st (.cons (.int .i64) (.cons (.int .i64) (.int .i64)))))))))) (.cons (.st (.cons (.int .i64) (.cons (.sl (.st (.cons (.int .i64) .bool))) (.cons (.sl (.st (.cons (.int .i64) (.int .i64)))) (.sl (.int .i64)))))) (.cons (.int .i64) .nil)),.cons (.st (.cons (.int .i64) (.cons (.sl (.st (.cons (.int .i64) .bool))) (.cons (.sl (.st (.cons (.int .i64) (.int .i64)))) (.sl (.int .i64)))))) (.cons (.int .i64) (.cons (.int .i64) (.cons (.sl (.st (.cons (.int .i64) (.cons (.int .i64) (.cons (.int .i64) (.int .i64)))))) (.cons (.int .i64) .nil)))),true,none,fun x=>List.length (α:=DStop) (x.2.1:DPlan).2.1≤20,fun x=>((bestF x.1 x.2.1 x.2.2.1).1,(bestF x.1 x.2.1 x.2.2.1).2.1,(bestF x.1 x.2.1 x.2.2.1).2.2.1,(bestF x.1 x.2.1 x.2.2.1).2.2.2.1,(bestF x.1 x.2.1 x.2.2.1).2.2.2.2,())⟩
def csBst:List Ent:=[entErr,entIst,entMk,entEnd] theorem hcsBst (f:FuncId):findEnt csBst f=findEnt [entErr,entIst,entMk,entEnd] f:=rfl
set_option maxHeartbeats 4000000 in
theorem conBst:Con Tryz.prog entBst:=by
 refine con_is (C:=csBst) x11 (by kernel_rfl) (by simp [csBst,conErr,conIst,conMk,conEnd]) fun x hx hf=>?_
 obtain ⟨⟨(N:Int),(A:List DArc),(C:List DCar),(Q:List DReq),(R:List DPair),(S1:Int),(S2:Int),(S3:Int)⟩,⟨(c:Int),(ss:List DStop),(L:List DLeg),(G:List Int)⟩,(r:Int),_⟩:=x
 have hl:ss.length≤20:=hx
 have hl2:ss.length≤22:=by omega
 obtain ⟨w,hw⟩:∃ w:DWorld,(N,A,C,Q,R,S1,S2,S3)=w:=⟨_,rfl⟩
 obtain ⟨p,hp⟩:∃ p:DPlan,(c,ss,L,G)=p:=⟨_,rfl⟩
 dsimp only [entBst,x11,Z1,Z19,Z20,Z23,Z9,Za,Zb,Zc,Zd,Zf,Zg]
 by_cases hE:errI (N,A,C,Q,R,S1,S2,S3) (c,ss,L,G) r=0
 ·obtain ⟨LL,hLL⟩:∃ LL,linesI (N,A,C,Q,R,S1,S2,S3) (c,ss,L,G) r=LL:=⟨_,rfl⟩
  obtain ⟨B,hBB⟩:∃ B:Nat→DPlan,∀ k,B k=bestN (N,A,C,Q,R,S1,S2,S3) (c,ss,L,G) r LL k:=⟨_,fun k=>rfl⟩
  have hlen:=lines_len (N,A,C,Q,R,S1,S2,S3) (c,ss,L,G) r
  rw [hLL] at hlen
  dsimp only at hlen
  have hoff:∀ j,j≤21→offI ss.length j≤441:=fun j hj=>Nat.le_trans (offI_le _ _) (Nat.le_trans (Nat.mul_le_mul (show ss.length+1≤21 by omega) hj) (by decide))
  have w1:IntKind.i64.wrap ((ss.length:Int)+1)=((ss.length+1:Nat):Int):=i64_in _ (by omega)
  have hat:∀ j i,j≤ss.length→i < ss.length+1 - j→LL.getD (offI ss.length j+i) dPlace=lineI (N,A,C,Q,R,S1,S2,S3) (c,ss,L,G) r j (j+i)∧offI ss.length j+i < LL.length:=fun j i hj hi=>by
   have:=lines_at (N,A,C,Q,R,S1,S2,S3) (c,ss,L,G) r hj hi
   rw [hLL] at this
   exact this.2
  have hF:bestF (N,A,C,Q,R,S1,S2,S3) (c,ss,L,G) r=if atN LL LL.length < 0 then (noPlan,0,0,LL,4) else (planI (N,A,C,Q,R,S1,S2,S3) (c,ss,L,G) r (LL.getD (atN LL LL.length).toNat dPlace),(LL.getD (atN LL LL.length).toNat dPlace).1,(LL.getD (atN LL LL.length).toNat dPlace).2.1,LL,0):=by
   unfold bestF;rw [if_neg (Decidable.not_not.2 hE),hLL]
  simp only [↓hcsBst,entErr,entIst,entMk,entEnd,undef,hE,hl2,w1,go_sem,YA,YS,YM,YL,YE,YD,YB,YN,YR,reduceIte,reduceCtorEq,↓reduceIte]
  try simp only [hE,hl2,w1,td,reduceCtorEq]
  refine XW_for 1000 x11_0d [0,1,2,5] Nat (fun j=>[(32,.val (.int .i64) (j:Int)),(14,.val (.int .i64) (atN LL (offI ss.length j))),(13,.own 15)])
   (fun j=>[(15,.row 57 (.st (.cons (.int .i64) (.cons (.int .i64) (.cons (.int .i64) (.int .i64))))) (LL.take (offI ss.length j))),(14,.box 34 [.val (.int .i64) (B (offI ss.length j)).1,.val (.sl (.st (.cons (.int .i64) .bool))) (B (offI ss.length j)).2.1,.val (.sl (.st (.cons (.int .i64) (.int .i64)))) (B (offI ss.length j)).2.2.1,.val (.sl (.int .i64)) (B (offI ss.length j)).2.2.2])])
   (fun j=>j≤ss.length+1) (fun j=>ss.length+1 - j) 0 ?_ ?_ ?_
  ·dsimp only [x11_0d]
   simp only [go_sem,YA,YS,YM,YL,YE,YD,YB,YN,YR,reduceIte,reduceCtorEq,↓reduceIte]
   refine ⟨⟨rfl,rfl⟩,rfl,?_⟩
   rw [show offI ss.length 0=0 from rfl,hBB]
   exact ⟨rfl,rfl,rfl,rfl⟩
  ·exact Nat.zero_le _
  intro j hj
  dsimp only [x11_0,x11_0d,Za]
  by_cases hj':j < ss.length+1
  ·simp only [↓hcsBst,entErr,entIst,entMk,entEnd,undef,hj',go_sem,YA,YS,YM,YL,YE,YD,YB,YN,YR,reduceIte,reduceCtorEq,↓reduceIte]
   try simp only [hj',td,reduceCtorEq]
   refine XW_for 2000 x11_1d [0,1,2,5] Nat (fun i=>[(16,.val (.int .i64) ((j+i:Nat):Int)),(14,.val (.int .i64) (atN LL (offI ss.length j+i))),(13,.own 15)])
    (fun i=>[(15,.row 57 (.st (.cons (.int .i64) (.cons (.int .i64) (.cons (.int .i64) (.int .i64))))) (LL.take (offI ss.length j+i))),(14,.box 34 [.val (.int .i64) (B (offI ss.length j+i)).1,.val (.sl (.st (.cons (.int .i64) .bool))) (B (offI ss.length j+i)).2.1,.val (.sl (.st (.cons (.int .i64) (.int .i64)))) (B (offI ss.length j+i)).2.2.1,.val (.sl (.int .i64)) (B (offI ss.length j+i)).2.2.2])])
    (fun i=>i≤ss.length+1 - j) (fun i=>ss.length+1 - j - i) 0 ?_ ?_ ?_
   ·dsimp only [x11_1d]
    simp only [go_sem,YA,YS,YM,YL,YE,YD,YB,YN,YR,reduceIte,reduceCtorEq,↓reduceIte]
    try trivial
   ·exact Nat.zero_le _
   intro i hi
   dsimp only [x11_1,x11_1d,Z1,Z19,Z20,Z23,Z9,Za,Zb,Zc,Zd,Zf,Zg,Zh,Zi]
   by_cases hi':i < ss.length+1 - j
   ·obtain ⟨hline,hkl⟩:=hat j i (by omega) hi'
    have hji:((j+i:Nat):Int)≤(ss.length:Int):=by omega
    have hji':j+i≤ss.length:=by omega
    have w2:IntKind.i64.wrap (((j+i:Nat):Int)+1)=((j+(i+1):Nat):Int):=(i64_in _ (by omega)).trans (by omega)
    have hsl:=stopsI_len ss r (j:Int) ((j+i:Nat):Int)
    have h24:(stopsI ss r (j:Int) ((j+i:Nat):Int)).length≤24:=by omega
    have hl3:ss.length≤1000:=by omega
    have hoj:=hoff j (by omega)
    have hkb:offI ss.length j+i≤500:=by omega
    have hrng:=atN_rng LL (offI ss.length j+i)
    have htl:(LL.take (offI ss.length j+i)).length=offI ss.length j+i:=by rw [List.length_take];omega
    have hts:LL.take (offI ss.length j+i) ++ [LL.getD (offI ss.length j+i) dPlace]=LL.take (offI ss.length j+(i+1)):=by
     rw [← Nat.add_assoc,List.take_succ_eq_append_getElem hkl,List.getD_eq_getElem?_getD,List.getElem?_eq_getElem hkl];rfl
    have hBs:=hBB (offI ss.length j+(i+1))
    have hAs:atN LL (offI ss.length j+(i+1))=if (LL.getD (offI ss.length j+i) dPlace).2.2.1=0∧(atN LL (offI ss.length j+i) < 0∨(LL.getD (offI ss.length j+i) dPlace).2.2.2 < (LL.getD (atN LL (offI ss.length j+i)).toNat dPlace).2.2.2) then ((offI ss.length j+i:Nat):Int) else atN LL (offI ss.length j+i):=rfl
    have hBk:=hBB (offI ss.length j+i)
    have htg:∀ a:Nat,a < offI ss.length j+i→(LL.take (offI ss.length j+i)).getD a (0,0,0,0)=LL.getD a dPlace:=fun a ha=>by
     simp only [List.getD];rw [List.getElem?_take_of_lt ha]
    unfold bestN at hBs hBk
    rw [hline] at hts hAs
    have hpl:planI (N,A,C,Q,R,S1,S2,S3) (c,ss,L,G) r (lineI (N,A,C,Q,R,S1,S2,S3) (c,ss,L,G) r j (j+i))=(makeF (N,A,C,Q,R,S1,S2,S3) c (stopsI ss r (j:Int) ((j+i:Nat):Int))).1:=rfl
    generalize offI ss.length j+i=k at *
    by_cases hm:(makeF (N,A,C,Q,R,S1,S2,S3) c (stopsI ss r (j:Int) ((j+i:Nat):Int))).2=0
    ·have hq2:(makeF (N,A,C,Q,R,S1,S2,S3) c (stopsI ss r (j:Int) ((j+i:Nat):Int))).1.2.1=stopsI ss r (j:Int) ((j+i:Nat):Int):=(made_ok hm).2.2.2.1
     have hlo:=(line_ok (w:=(N,A,C,Q,R,S1,S2,S3)) (p:=(c,ss,L,G)) (r:=r) (a:=j) (b:=j+i) hm).2.2
     obtain ⟨⟨⟨q1,q2,q3,q4⟩,e⟩,hmk⟩:∃ X:DPlan × Int,makeF (N,A,C,Q,R,S1,S2,S3) c (stopsI ss r (j:Int) ((j+i:Nat):Int))=X:=⟨_,rfl⟩
     obtain ⟨t,htt⟩:∃ t,(endP (N,A,C,Q,R,S1,S2,S3) (makeF (N,A,C,Q,R,S1,S2,S3) c (stopsI ss r (j:Int) ((j+i:Nat):Int))).1).1=t:=⟨_,rfl⟩
     have hen:endP (N,A,C,Q,R,S1,S2,S3) (makeF (N,A,C,Q,R,S1,S2,S3) c (stopsI ss r (j:Int) ((j+i:Nat):Int))).1=(t,0):=Prod.ext htt (line_ok (w:=(N,A,C,Q,R,S1,S2,S3)) (p:=(c,ss,L,G)) (r:=r) (a:=j) (b:=j+i) hm).2.1
     have hlo':lineI (N,A,C,Q,R,S1,S2,S3) (c,ss,L,G) r j (j+i)=((j:Int),((j+i:Nat):Int),0,t):=hlo.trans (by rw [← htt])
     rw [hlo'] at hts hAs hline
     rw [hmk] at hm hq2 hen hpl
     rw [hlo'] at hpl
     dsimp only at hm hq2 hpl hAs
     subst hm
     have hq24:q2.length≤24:=by rw [hq2];exact h24
     rcases Int.lt_or_le (atN LL k) 0 with hm0 | hm0
     ·rw [if_pos ⟨rfl,.inl hm0⟩] at hAs
      rw [hAs,if_neg (by omega),Int.toNat_natCast,hline,hpl] at hBs
      simp only [↓hcsBst,entErr,entIst,entMk,entEnd,undef,hji,hji',w2,hmk,hen,h24,hl3,hq24,hm0,htl,Int.toNat_natCast,go_sem,YA,YS,YM,YL,YE,YD,YB,YN,YR,reduceIte,reduceCtorEq,↓reduceIte]
      try simp only [hji,hji',w2,hmk,hen,h24,hl3,hq24,hm0,htl,Int.toNat_natCast,td,reduceCtorEq]
      exact ⟨by omega,i+1,by omega,by omega,⟨rfl,hAs.symm⟩,hts,by rw [hBs],by rw [hBs],by rw [hBs],by rw [hBs]⟩
     ·obtain ⟨m,hmn⟩:∃ m:Nat,atN LL k=m:=⟨(atN LL k).toNat,by omega⟩
      have hm1:m < k:=by omega
      have hm2:¬ (m:Int) < 0:=by omega
      have hm3:(m:Int) < (k:Int):=by omega
      have hm4:(0:Int)≤(m:Int):=by omega
      rw [hmn] at hAs hBk
      rw [if_neg hm2,Int.toNat_natCast] at hBk
      have htm:=htg m hm1
      rw [Int.toNat_natCast] at hAs
      by_cases ht:t < (LL.getD m dPlace).2.2.2
      ·rw [if_pos ⟨rfl,.inr ht⟩] at hAs
       rw [hAs,if_neg (by omega),Int.toNat_natCast,hline,hpl] at hBs
       simp only [↓hcsBst,entErr,entIst,entMk,entEnd,undef,hji,hji',w2,hmk,hen,h24,hl3,hq24,hmn,hm1,hm2,hm3,hm4,htm,ht,htl,Int.toNat_natCast,go_sem,YA,YS,YM,YL,YE,YD,YB,YN,YR,reduceIte,reduceCtorEq,↓reduceIte]
       try simp only [hji,hji',w2,hmk,hen,h24,hl3,hq24,hmn,hm1,hm2,hm3,hm4,htm,ht,htl,Int.toNat_natCast,td,reduceCtorEq]
       exact ⟨by omega,i+1,by omega,by omega,⟨rfl,hAs.symm⟩,hts,by rw [hBs],by rw [hBs],by rw [hBs],by rw [hBs]⟩
      ·rw [if_neg (by rintro ⟨_,z | z⟩;exact hm2 z;exact ht z)] at hAs
       rw [hAs,if_neg hm2,Int.toNat_natCast,← hBk] at hBs
       simp only [↓hcsBst,entErr,entIst,entMk,entEnd,undef,hji,hji',w2,hmk,hen,h24,hl3,hq24,hmn,hm1,hm2,hm3,hm4,htm,ht,htl,Int.toNat_natCast,go_sem,YA,YS,YM,YL,YE,YD,YB,YN,YR,reduceIte,reduceCtorEq,↓reduceIte]
       try simp only [hji,hji',w2,hmk,hen,h24,hl3,hq24,hmn,hm1,hm2,hm3,hm4,htm,ht,htl,Int.toNat_natCast,td,reduceCtorEq]
       exact ⟨by omega,i+1,by omega,by omega,⟨rfl,hAs.symm⟩,hts,by rw [hBs],by rw [hBs],by rw [hBs],by rw [hBs]⟩
    ·have hln:=line_no (w:=(N,A,C,Q,R,S1,S2,S3)) (p:=(c,ss,L,G)) (r:=r) (a:=j) (b:=j+i) hm
     obtain ⟨⟨⟨q1,q2,q3,q4⟩,e⟩,hmk⟩:∃ X:DPlan × Int,makeF (N,A,C,Q,R,S1,S2,S3) c (stopsI ss r (j:Int) ((j+i:Nat):Int))=X:=⟨_,rfl⟩
     have hln':lineI (N,A,C,Q,R,S1,S2,S3) (c,ss,L,G) r j (j+i)=((j:Int),((j+i:Nat):Int),e,0):=hln.trans (by rw [hmk])
     rw [hln'] at hts hAs
     rw [hmk] at hm
     dsimp only at hm hAs
     rw [if_neg (fun z=>hm z.1)] at hAs
     rw [hAs,← hBk] at hBs
     simp only [↓hcsBst,entErr,entIst,entMk,entEnd,undef,hji,hji',w2,hmk,h24,hl3,hm,htl,Int.toNat_natCast,go_sem,YA,YS,YM,YL,YE,YD,YB,YN,YR,reduceIte,reduceCtorEq,↓reduceIte]
     try simp only [hji,hji',w2,hmk,h24,hl3,hm,htl,Int.toNat_natCast,td,reduceCtorEq]
     exact ⟨by omega,i+1,by omega,by omega,⟨rfl,hAs.symm⟩,hts,by rw [hBs],by rw [hBs],by rw [hBs],by rw [hBs]⟩
   ·obtain rfl:i=ss.length+1 - j:=by omega
    have hji:¬ ((j+(ss.length+1 - j):Nat):Int)≤(ss.length:Int):=by omega
    have hji':¬ j+(ss.length+1 - j)≤ss.length:=by omega
    have w2:IntKind.i64.wrap ((j:Int)+1)=((j+1:Nat):Int):=i64_in _ (by omega)
    have hoe:offI ss.length j+(ss.length+1 - j)=offI ss.length (j+1):=rfl
    simp only [↓hcsBst,entErr,entIst,entMk,entEnd,undef,hji,hji',w2,hoe,go_sem,YA,YS,YM,YL,YE,YD,YB,YN,YR,reduceIte,reduceCtorEq,↓reduceIte]
    try simp only [hji,hji',w2,hoe,td,reduceCtorEq]
    exact ⟨j+1,by omega,by omega,⟨rfl,rfl⟩,rfl,rfl,rfl,rfl,rfl⟩
  ·obtain rfl:j=ss.length+1:=by omega
   simp only [↓hcsBst,entErr,entIst,entMk,entEnd,undef,hj',go_sem,YA,YS,YM,YL,YE,YD,YB,YN,YR,reduceIte,reduceCtorEq,↓reduceIte]
   try simp only [hj',td,reduceCtorEq]
   rw [← hlen,List.take_length,hF]
   have rng:=atN_rng LL LL.length
   have hBl:=hBB LL.length
   unfold bestN at hBl
   refine ⟨fun h=>by rw [if_pos h];rfl,fun h=>?_⟩
   rw [if_neg (by omega)] at hBl ⊢
   refine ⟨⟨⟨h,by omega⟩,by omega,⟨h,by omega⟩,by omega⟩,?_⟩
   rw [hBl]
 ·have hB:bestF (N,A,C,Q,R,S1,S2,S3) (c,ss,L,G) r=(noPlan,0,0,[],errI (N,A,C,Q,R,S1,S2,S3) (c,ss,L,G) r):=by unfold bestF;rw [if_pos hE]
  simp only [↓hcsBst,entErr,entIst,entMk,entEnd,undef,hE,hB,noPlan,hl2,go_sem,YA,YS,YM,YL,YE,YD,YB,YN,YR,reduceIte,reduceCtorEq,↓reduceIte]
  try simp only [hE,hB,noPlan,hl2,td,reduceCtorEq]
end T
end
section
open Go.RowKit Go.IntWalk
namespace T
def entEqSt:Ent:=⟨83,.cons (.sl (.st (.cons (.int .i64) .bool))) (.cons (.sl (.st (.cons (.int .i64) .bool))) .nil),.bool,false,none,fun _=>True,fun x=>decide ((x.1:List DStop)=x.2.1)⟩
def csEqSt:List Ent:=[] theorem hcsEqSt (f:FuncId):findEnt csEqSt f=findEnt [] f:=rfl
theorem conEqSt:Con Tryz.prog entEqSt:=by
 refine con_is (C:=csEqSt) x83 (by kernel_rfl) (by simp [csEqSt]) fun x hx hf=>?_
 obtain ⟨(a:List DStop),(b:List DStop),_⟩:=x
 have hl:a.length≤9223372036854775807:=hf.1.1
 by_cases hab:a.length=b.length
 ·have habi:(a.length:Int)=(b.length:Int):=by omega
  dsimp only [entEqSt,x83,Za,Zb,Zg];simp only [↓hcsEqSt,habi,go_sem,YA,YS,YM,YL,YE,YD,YB,YN,YR,reduceIte,reduceCtorEq,↓reduceIte]
  try simp only [habi,td,reduceCtorEq]
  refine XW_for 1000 x83_0d [] Nat (fun j=>[(13,.val (.int .i64) (j:Int))]) (fun _=>[]) (fun j=>j≤a.length∧∀ i,i < j→a.getD i dStop=b.getD i dStop) (fun j=>a.length - j) 0 ?_ ?_ ?_
  ·dsimp only [x83_0d];simp only [go_sem,YA,YS,YM,YL,YE,YD,YB,YN,YR,reduceIte,reduceCtorEq,↓reduceIte];try trivial
  ·exact ⟨Nat.zero_le _,fun i hi=>by omega⟩
  rintro j ⟨hj,hn⟩
  by_cases hja:j < a.length
  ·have hjb:j < b.length:=by omega
   have w2:IntKind.i64.wrap ((j:Int)+1)=((j+1:Nat):Int):=i64_in _ (by omega)
   have hne:a.getD j dStop≠b.getD j dStop→decide (a=b)=false:=fun h=>decide_eq_false fun z=>h (by rw [z])
   have hnx:a.getD j dStop=b.getD j dStop→∀ i,i < j+1→a.getD i dStop=b.getD i dStop:=fun h i hi=>by
    rcases Nat.lt_or_ge i j with q | q
    ·exact hn i q
    ·rw [show i=j by omega];exact h
   generalize hA:a.getD j dStop=u at hne hnx
   generalize hB:b.getD j dStop=v at hne hnx
   obtain ⟨u1,u2⟩:=u
   obtain ⟨v1,v2⟩:=v
   have huv:((u1,u2)=(v1,v2)) ↔ u1=v1∧u2=v2:=Prod.mk.injEq _ _ _ _ ▸ Iff.rfl
   dsimp only [x83_0,x83_0d,Z8,Za,Zf];simp only [↓hcsEqSt,hja,hjb,w2,hA,hB,habi,go_sem,YA,YS,YM,YL,YE,YD,YB,YN,YR,reduceIte,reduceCtorEq,↓reduceIte]
   try simp only [hja,hjb,w2,hA,hB,habi,td,reduceCtorEq]
   exact ⟨fun h=>(hne (fun q=>h (huv.1 q).1 (huv.1 q).2)).symm,fun h=>⟨j+1,by omega,⟨by omega,hnx (huv.2 h)⟩,rfl⟩⟩
  ·have hjb:¬ j < b.length:=by omega
   have heq:decide (a=b)=true:=decide_eq_true (ext_getD dStop hab fun i hi=>hn i (by omega))
   dsimp only [x83_0,x83_0d,Z8,Za,Zf];simp only [↓hcsEqSt,hja,hjb,habi,heq,go_sem,YA,YS,YM,YL,YE,YD,YB,YN,YR,reduceIte,reduceCtorEq,↓reduceIte]
   try simp only [hja,hjb,habi,heq,td,reduceCtorEq]
 ·have habi:¬ (a.length:Int)=(b.length:Int):=by omega
  have hne:decide (a=b)=false:=decide_eq_false fun z=>hab (by rw [z])
  dsimp only [entEqSt,x83,Za,Zb,Zg];simp only [↓hcsEqSt,hab,habi,hne,go_sem,YA,YS,YM,YL,YE,YD,YB,YN,YR,reduceIte,reduceCtorEq,↓reduceIte]
  try simp only [hab,habi,hne,td,reduceCtorEq]
def entEqIn:Ent:=⟨84,.cons (.sl (.int .i64)) (.cons (.sl (.int .i64)) .nil),.bool,false,none,fun _=>True,fun x=>decide ((x.1:List Int)=x.2.1)⟩
def csEqIn:List Ent:=[] theorem hcsEqIn (f:FuncId):findEnt csEqIn f=findEnt [] f:=rfl
theorem conEqIn:Con Tryz.prog entEqIn:=by
 refine con_is (C:=csEqIn) x84 (by kernel_rfl) (by simp [csEqIn]) fun x hx hf=>?_
 obtain ⟨(a:List Int),(b:List Int),_⟩:=x
 have hl:a.length≤9223372036854775807:=hf.1.1
 by_cases hab:a.length=b.length
 ·have habi:(a.length:Int)=(b.length:Int):=by omega
  dsimp only [entEqIn,x84,Za,Zb,Zg];simp only [↓hcsEqIn,habi,go_sem,YA,YS,YM,YL,YE,YD,YB,YN,YR,reduceIte,reduceCtorEq,↓reduceIte]
  try simp only [habi,td,reduceCtorEq]
  refine XW_for 1000 x84_0d [] Nat (fun j=>[(13,.val (.int .i64) (j:Int))]) (fun _=>[]) (fun j=>j≤a.length∧∀ i,i < j→a.getD i 0=b.getD i 0) (fun j=>a.length - j) 0 ?_ ?_ ?_
  ·dsimp only [x84_0d];simp only [go_sem,YA,YS,YM,YL,YE,YD,YB,YN,YR,reduceIte,reduceCtorEq,↓reduceIte];try trivial
  ·exact ⟨Nat.zero_le _,fun i hi=>by omega⟩
  rintro j ⟨hj,hn⟩
  by_cases hja:j < a.length
  ·have hjb:j < b.length:=by omega
   have w2:IntKind.i64.wrap ((j:Int)+1)=((j+1:Nat):Int):=i64_in _ (by omega)
   have hne:a.getD j 0≠b.getD j 0→decide (a=b)=false:=fun h=>decide_eq_false fun z=>h (by rw [z])
   have hnx:a.getD j 0=b.getD j 0→∀ i,i < j+1→a.getD i 0=b.getD i 0:=fun h i hi=>by
    rcases Nat.lt_or_ge i j with q | q
    ·exact hn i q
    ·rw [show i=j by omega];exact h
   generalize hA:a.getD j 0=u at hne hnx
   generalize hB:b.getD j 0=v at hne hnx
   dsimp only [x84_0,x84_0d,Z1,Za,Zf];simp only [↓hcsEqIn,hja,hjb,w2,hA,hB,habi,go_sem,YA,YS,YM,YL,YE,YD,YB,YN,YR,reduceIte,reduceCtorEq,↓reduceIte]
   try simp only [hja,hjb,w2,hA,hB,habi,td,reduceCtorEq]
   exact ⟨fun h=>(hne h).symm,fun h=>⟨j+1,by omega,⟨by omega,hnx h⟩,rfl⟩⟩
  ·have hjb:¬ j < b.length:=by omega
   have heq:decide (a=b)=true:=decide_eq_true (ext_getD 0 hab fun i hi=>hn i (by omega))
   dsimp only [x84_0,x84_0d,Z1,Za,Zf];simp only [↓hcsEqIn,hja,hjb,habi,heq,go_sem,YA,YS,YM,YL,YE,YD,YB,YN,YR,reduceIte,reduceCtorEq,↓reduceIte]
   try simp only [hja,hjb,habi,heq,td,reduceCtorEq]
 ·have habi:¬ (a.length:Int)=(b.length:Int):=by omega
  have hne:decide (a=b)=false:=decide_eq_false fun z=>hab (by rw [z])
  dsimp only [entEqIn,x84,Za,Zb,Zg];simp only [↓hcsEqIn,hab,habi,hne,go_sem,YA,YS,YM,YL,YE,YD,YB,YN,YR,reduceIte,reduceCtorEq,↓reduceIte]
  try simp only [hab,habi,hne,td,reduceCtorEq]
def entEqPl:Ent:=⟨40,.cons (.sl (.st (.cons (.int .i64) (.cons (.int .i64) (.cons (.int .i64) (.int .i64)))))) (.cons (.sl (.st (.cons (.int .i64) (.cons (.int .i64) (.cons (.int .i64) (.int .i64)))))) .nil),.bool,false,none,fun _=>True,fun x=>decide ((x.1:List DPlace)=x.2.1)⟩
def csEqPl:List Ent:=[] theorem hcsEqPl (f:FuncId):findEnt csEqPl f=findEnt [] f:=rfl
theorem conEqPl:Con Tryz.prog entEqPl:=by
 refine con_is (C:=csEqPl) x40 (by kernel_rfl) (by simp [csEqPl]) fun x hx hf=>?_
 obtain ⟨(a:List DPlace),(b:List DPlace),_⟩:=x
 have hl:a.length≤9223372036854775807:=hf.1.1
 by_cases hab:a.length=b.length
 ·have habi:(a.length:Int)=(b.length:Int):=by omega
  dsimp only [entEqPl,x40,Za,Zb,Zg];simp only [↓hcsEqPl,habi,go_sem,YA,YS,YM,YL,YE,YD,YB,YN,YR,reduceIte,reduceCtorEq,↓reduceIte]
  try simp only [habi,td,reduceCtorEq]
  refine XW_for 1000 x40_0d [] Nat (fun j=>[(13,.val (.int .i64) (j:Int))]) (fun _=>[]) (fun j=>j≤a.length∧∀ i,i < j→a.getD i dPlace=b.getD i dPlace) (fun j=>a.length - j) 0 ?_ ?_ ?_
  ·dsimp only [x40_0d];simp only [go_sem,YA,YS,YM,YL,YE,YD,YB,YN,YR,reduceIte,reduceCtorEq,↓reduceIte];try trivial
  ·exact ⟨Nat.zero_le _,fun i hi=>by omega⟩
  rintro j ⟨hj,hn⟩
  by_cases hja:j < a.length
  ·have hjb:j < b.length:=by omega
   have w2:IntKind.i64.wrap ((j:Int)+1)=((j+1:Nat):Int):=i64_in _ (by omega)
   have hne:a.getD j dPlace≠b.getD j dPlace→decide (a=b)=false:=fun h=>decide_eq_false fun z=>h (by rw [z])
   have hnx:a.getD j dPlace=b.getD j dPlace→∀ i,i < j+1→a.getD i dPlace=b.getD i dPlace:=fun h i hi=>by
    rcases Nat.lt_or_ge i j with q | q
    ·exact hn i q
    ·rw [show i=j by omega];exact h
   generalize hA:a.getD j dPlace=u at hne hnx
   generalize hB:b.getD j dPlace=v at hne hnx
   obtain ⟨u1,u2,u3,u4⟩:=u
   obtain ⟨v1,v2,v3,v4⟩:=v
   have huv:((u1,u2,u3,u4)=(v1,v2,v3,v4)) ↔ u1=v1∧u2=v2∧u3=v3∧u4=v4:=by simp
   dsimp only [x40_0,x40_0d,Z9,Za,Zf];simp only [↓hcsEqPl,hja,hjb,w2,hA,hB,habi,go_sem,YA,YS,YM,YL,YE,YD,YB,YN,YR,reduceIte,reduceCtorEq,↓reduceIte]
   try simp only [hja,hjb,w2,hA,hB,habi,td,reduceCtorEq]
   exact ⟨fun h=>(hne (fun q=>h (huv.1 q).1 (huv.1 q).2.1 (huv.1 q).2.2.1 (huv.1 q).2.2.2)).symm,fun h=>⟨j+1,by omega,⟨by omega,hnx (huv.2 h)⟩,rfl⟩⟩
  ·have hjb:¬ j < b.length:=by omega
   have heq:decide (a=b)=true:=decide_eq_true (ext_getD dPlace hab fun i hi=>hn i (by omega))
   dsimp only [x40_0,x40_0d,Z9,Za,Zf];simp only [↓hcsEqPl,hja,hjb,habi,heq,go_sem,YA,YS,YM,YL,YE,YD,YB,YN,YR,reduceIte,reduceCtorEq,↓reduceIte]
   try simp only [hja,hjb,habi,heq,td,reduceCtorEq]
 ·have habi:¬ (a.length:Int)=(b.length:Int):=by omega
  have hne:decide (a=b)=false:=decide_eq_false fun z=>hab (by rw [z])
  dsimp only [entEqPl,x40,Za,Zb,Zg];simp only [↓hcsEqPl,hab,habi,hne,go_sem,YA,YS,YM,YL,YE,YD,YB,YN,YR,reduceIte,reduceCtorEq,↓reduceIte]
  try simp only [hab,habi,hne,td,reduceCtorEq]
def entIsm:Ent:=⟨39,.cons (.st (.cons (.int .i64) (.cons (.sl (.st (.cons (.int .i64) .bool))) (.cons (.sl (.st (.cons (.int .i64) (.int .i64)))) (.sl (.int .i64)))))) (.cons (.st (.cons (.int .i64) (.cons (.sl (.st (.cons (.int .i64) .bool))) (.cons (.sl (.st (.cons (.int .i64) (.int .i64)))) (.sl (.int .i64)))))) .nil),.bool,false,none,fun _=>True,fun x=>decide ((x.1:DPlan)=x.2.1)⟩
def csIsm:List Ent:=[entEqSt,entEqIn,entEqLg] theorem hcsIsm (f:FuncId):findEnt csIsm f=findEnt [entEqSt,entEqIn,entEqLg] f:=rfl
theorem conIsm:Con Tryz.prog entIsm:=by
 refine con_is (C:=csIsm) x39 (by kernel_rfl) (by simp [csIsm,conEqSt,conEqIn,conEqLg]) fun x hx hf=>?_
 obtain ⟨⟨(a1:Int),(a2:List DStop),(a3:List DLeg),(a4:List Int)⟩,⟨(b1:Int),(b2:List DStop),(b3:List DLeg),(b4:List Int)⟩,_⟩:=x
 dsimp only [entIsm,x39,Z1,Z11,Z19,Z3,Za,Zb,Zc,Ze];simp only [↓hcsIsm,entEqSt,entEqIn,entEqLg,undef,go_sem,YA,YS,YM,YL,YE,YD,YB,YN,YR,reduceIte,reduceCtorEq,↓reduceIte]
 try simp only [td,reduceCtorEq]
 rw [Bool.eq_iff_iff]
 simp [and_assoc]
def entICk:Ent:=⟨19,.cons (.st (.cons (.int .i64) (.cons (.sl (.st (.cons (.int .i64) (.cons (.int .i64) (.cons (.sl (.int .i64)) (.sl (.int .i64))))))) (.cons (.sl (.st (.cons (.int .i64) (.cons (.int .i64) (.cons (.int .i64) (.cons (.int .i64) (.cons (.int .i64) (.cons (.int .i64) (.cons (.int .i64) (.cons (.int .i64) (.int .i64))))))))))) (.cons (.sl (.st (.cons (.int .i64) (.cons (.int .i64) (.cons (.int .i64) (.cons (.int .i64) (.cons (.int .i64) (.cons (.int .i64) (.cons (.int .i64) (.cons (.int .i64) (.cons (.int .i64) (.int .i64)))))))))))) (.cons (.sl (.st (.cons (.int .i64) (.cons (.int .i64) .bool)))) (.st (.cons (.int .i64) (.cons (.int .i64) (.int .i64)))))))))) (.cons (.st (.cons (.int .i64) (.cons (.sl (.st (.cons (.int .i64) .bool))) (.cons (.sl (.st (.cons (.int .i64) (.int .i64)))) (.sl (.int .i64)))))) (.cons (.int .i64) (.cons (.st (.cons (.int .i64) (.cons (.sl (.st (.cons (.int .i64) .bool))) (.cons (.sl (.st (.cons (.int .i64) (.int .i64)))) (.sl (.int .i64)))))) (.cons (.sl (.st (.cons (.int .i64) (.cons (.int .i64) (.cons (.int .i64) (.int .i64)))))) .nil)))),(.int .i64),false,none,fun x=>List.length (α:=DStop) (x.2.1:DPlan).2.1≤20,fun x=>checkI x.1 x.2.1 x.2.2.1 x.2.2.2.1 x.2.2.2.2.1⟩
def csICk:List Ent:=[entBst,entIsm,entEqPl] theorem hcsICk (f:FuncId):findEnt csICk f=findEnt [entBst,entIsm,entEqPl] f:=rfl
theorem conICk:Con Tryz.prog entICk:=by
 refine con_is (C:=csICk) x19 (by kernel_rfl) (by simp [csICk,conBst,conIsm,conEqPl]) fun x hx hf=>?_
 obtain ⟨⟨(N:Int),(A:List DArc),(C:List DCar),(Q:List DReq),(R:List DPair),(S1:Int),(S2:Int),(S3:Int)⟩,⟨(c:Int),(ss:List DStop),(L:List DLeg),(G:List Int)⟩,(r:Int),⟨(g1:Int),(g2:List DStop),(g3:List DLeg),(g4:List Int)⟩,(l:List DPlace),_⟩:=x
 have hl:ss.length≤20:=hx
 have hF:checkI (N,A,C,Q,R,S1,S2,S3) (c,ss,L,G) r (g1,g2,g3,g4) l=if (bestF (N,A,C,Q,R,S1,S2,S3) (c,ss,L,G) r).2.2.2.2≠0∧(bestF (N,A,C,Q,R,S1,S2,S3) (c,ss,L,G) r).2.2.2.2≠4 then (bestF (N,A,C,Q,R,S1,S2,S3) (c,ss,L,G) r).2.2.2.2 else if (bestF (N,A,C,Q,R,S1,S2,S3) (c,ss,L,G) r).1=(g1,g2,g3,g4)∧(bestF (N,A,C,Q,R,S1,S2,S3) (c,ss,L,G) r).2.2.2.1=l then 0 else 23:=rfl
 obtain ⟨⟨⟨b1,b2,b3,b4⟩,bp,bd,bl,e⟩,hB⟩:∃ X:DPlan × Int × Int × List DPlace × Int,bestF (N,A,C,Q,R,S1,S2,S3) (c,ss,L,G) r=X:=⟨_,rfl⟩
 rw [hB] at hF
 dsimp only at hF
 dsimp only [entICk,x19,Z20,Z23,Za,Zb,Zc,Zd,Ze,Zg]
 by_cases h0:e=0∨e=4
 ·rw [if_neg (by omega)] at hF
  by_cases h1:((b1,b2,b3,b4):DPlan)=(g1,g2,g3,g4)
  ·by_cases h2:bl=l
   ·rw [if_pos ⟨h1,h2⟩] at hF
    rcases h0 with h0 | h0 <;>
    ·subst h0
     simp only [↓hcsICk,entBst,entIsm,entEqPl,undef,hB,hF,hl,h1,h2,go_sem,YA,YS,YM,YL,YE,YD,YB,YN,YR,reduceIte,reduceCtorEq,↓reduceIte]
     try simp only [hB,hF,hl,h1,h2,td,reduceCtorEq]
   ·rw [if_neg (fun z=>h2 z.2)] at hF
    rcases h0 with h0 | h0 <;>
    ·subst h0
     simp only [↓hcsICk,entBst,entIsm,entEqPl,undef,hB,hF,hl,h1,h2,go_sem,YA,YS,YM,YL,YE,YD,YB,YN,YR,reduceIte,reduceCtorEq,↓reduceIte]
     try simp only [hB,hF,hl,h1,h2,td,reduceCtorEq]
  ·rw [if_neg (fun z=>h1 z.1)] at hF
   rcases h0 with h0 | h0 <;>
   ·subst h0
    simp only [↓hcsICk,entBst,entIsm,entEqPl,undef,hB,hF,hl,h1,go_sem,YA,YS,YM,YL,YE,YD,YB,YN,YR,reduceIte,reduceCtorEq,↓reduceIte]
    try simp only [hB,hF,hl,h1,td,reduceCtorEq]
 ·have e0:¬ e=0:=by omega
  have e4:¬ e=4:=by omega
  rw [if_pos ⟨e0,e4⟩] at hF
  simp only [↓hcsICk,entBst,entIsm,entEqPl,undef,hB,hF,hl,e0,e4,go_sem,YA,YS,YM,YL,YE,YD,YB,YN,YR,reduceIte,reduceCtorEq,↓reduceIte]
  try simp only [hB,hF,hl,e0,e4,td,reduceCtorEq]
end T
end
section
open Go.RowKit Go.IntWalk
namespace T
def arcF20 (f t lo hi:Int):DArc:=(f,t,List.replicate 24 lo,List.replicate 24 hi)
theorem tk20 (a b lo hi:Int) (h:Bool) (u:Int):(toArc (arcF20 a b lo hi)).tk h u=if h then hi else lo:=by
 have hl:=hour_lt u
 unfold Arc.tk Arc.row
 cases h
 ·show (List.replicate 24 lo).getD _ 0=lo
  rw [List.getD_eq_getElem?_getD,List.getElem?_replicate,if_pos hl];rfl
 ·show (List.replicate 24 hi).getD _ 0=hi
  rw [List.getD_eq_getElem?_getD,List.getElem?_replicate,if_pos hl];rfl
theorem pass20 {a b lo hi:Int} {h:Bool} {x p:Int} (h1:x≤1048576) (e:p=x+if h then hi else lo):(toArc (arcF20 a b lo hi)).pass h x=p:=by
 refine Arc.pass_eq h1 ⟨⟨x,Int.le_refl _,h1,by rw [tk20];exact e⟩,fun v v1 v2=>?_⟩
 rw [tk20,e]
 omega
def town21 (s:Int):DWorld:=(2,[arcF20 0 1 10 20],[(0,0,0,100,s,0,0,0,0)],[(0,0,1,0,30,60,20,1,0,0)],[],100,10,200)
abbrev st21:List DStop:=[(0,true),(0,false)]
abbrev p21:DPlan:=(0,[],[],[0])
abbrev q21:DPlan:=(0,[(0,true),(0,false)],[(0,0),(10,20)],[0,0,0])
theorem ex21 (f0:Int→Int) (h0:f0 0=20) (E:Nat→Move) (e0:E 0=(0,1,f0)):searchF false E 1 2 0 0=[(0,-1),(20,0)]:=by
 simp [searchF,runF,relaxTo,pickTo,reachF,betterB,timeB,isTime,h0,e0,List.replicate,List.set]
theorem pq21:(toArc (arcF20 0 1 10 20)).passF true 0=20:=by rw [Arc.passF_yes _ (by decide) ⟨by decide,by decide⟩,pass20 (p:=20) (by decide) (by decide)]
theorem ey21:earlyF 2 [arcF20 0 1 10 20] 0 0 true=([(0,-1),(20,0)],0,()):=by
 unfold earlyF
 rw [show rightR 2 [arcF20 0 1 10 20]=true by decide,if_neg (by decide),show searchF false (moveE [arcF20 0 1 10 20] true) [arcF20 0 1 10 20].length (2:Int).toNat (0:Int).toNat 0=_ from ex21 _ pq21 (moveE [arcF20 0 1 10 20] true) rfl]
theorem wy21:wayF [(0,-1),(20,0)] [arcF20 0 1 10 20] 1=[0]:=by decide
theorem lw21:legF (town21 1) 0 1 (0,30)=((10,20),true):=by
 have e:legWay (town21 1) 0 1 (0,30)=[0]:=by
  unfold legWay
  show wayF (earlyF 2 [arcF20 0 1 10 20] 0 0 true).1 [arcF20 0 1 10 20] 1=[0]
  rw [ey21];exact wy21
 unfold legF
 rw [if_neg (by decide),e]
 exact congrArg (fun x=>(x,true)) (by decide +kernel:([0]:List Int).foldl (legStep [arcF20 0 1 10 20] 0 30) (0,0)=(10,20))
theorem ch21:chainF (town21 1) 0 st21=(([(0,100),(0,30),(0,60)],[(0,0),(10,20)],[(1,2,20)]),0):=by
 have l0:legAt (town21 1) 0 st21 0=((0,0),true):=rfl
 have l1:legAt (town21 1) 0 st21 1=((10,20),true):=lw21
 have a1:¬ asksF (town21 1) 0 st21=false:=by decide +kernel
 have a2:¬ (List.range (st21.length+1)).any (badW (town21 1) 0 st21)=true:=by decide +kernel
 have a3:¬ (List.range st21.length).any (fun k=>!(legAt (town21 1) 0 st21 k).2)=true:=by
  show ¬ ([0,1]:List Nat).any (fun k=>!(legAt (town21 1) 0 st21 k).2)=true
  rw [List.any_cons,List.any_cons,List.any_nil,l0,l1];decide
 have a4:legsF (town21 1) 0 st21=[(0,0),(10,20)]:=by
  show [(legAt (town21 1) 0 st21 0).1,(legAt (town21 1) 0 st21 1).1]=_
  rw [l0,l1]
 have a5:winsF (town21 1) 0 st21=[(0,100),(0,30),(0,60)]:=by decide +kernel
 have a6:ridesR (town21 1) st21 st21.length=[(1,2,20)]:=by decide +kernel
 unfold chainF
 rw [if_neg a1,if_neg a2,if_neg a3,a4,a5,a6]
theorem bg21:begF (town21 1) 0 st21=(([(0,100),(0,30),(0,60)],[(0,0),(10,20)],[(1,2,20)]),0):=by
 unfold begF
 rw [if_neg (by decide +kernel),if_neg (by decide +kernel),if_neg (by decide +kernel),ch21]
theorem mk21:makeF (town21 1) 0 st21=(q21,0):=by
 rw [makeF_eq,bg21];decide +kernel
theorem en21:endP (town21 1) q21=(20,0):=by
 have h:(makeF (town21 1) 0 st21).2=0:=by rw [mk21]
 have hc:=(made_ok h).2.1
 rw [mk21] at hc
 rw [endP_eq,if_neg (Decidable.not_not.2 hc)]
 show (lastI (worstF (chainF (town21 1) 0 st21).1 [0,0,0]).1,(0:Int))=_
 rw [ch21];decide +kernel
theorem m21:makeF (town21 1) 0 []=(p21,0):=by decide +kernel
theorem si21:stopsI [] 0 ((0:Nat):Int) ((0:Nat):Int)=st21:=by decide
theorem li21:linesI (town21 1) p21 0=[(0,0,0,20)]:=by
 show [lineI (town21 1) p21 0 0 (0+0)]=_
 unfold lineI
 rw [show stopsI p21.2.1 0 ((0:Nat):Int) ((0+0:Nat):Int)=st21 from si21,show makeF (town21 1) p21.1 st21=(q21,0) from mk21,if_pos rfl,en21]
 rfl
theorem er21:errI (town21 1) p21 0=0:=by decide +kernel
theorem at21 (e t:Int) (h:e=0):atN [(0,0,e,t)] 1=0:=by subst h;rfl
abbrev l21:List DPlace:=[(0,0,0,20)]
theorem hs21:stopsI p21.2.1 0 (0:Int) (0:Int)=st21:=by decide
theorem ha21:atN l21 l21.length=0:=at21 0 20 rfl
theorem plan_gen {w:DWorld} {p:DPlan} {r c:Int} {x:DPlace} {ss:List DStop} {q:DPlan} (h1:p.1=c) (h2:stopsI p.2.1 r x.1 x.2.1=ss) (h3:makeF w c ss=(q,0)):planI w p r x=q:=by
 unfold planI
 rw [h1,h2,h3]
theorem hp21:planI (town21 1) p21 0 (0,0,0,20)=q21:=plan_gen (c:=0) rfl hs21 mk21
theorem be_gen {w:DWorld} {p:DPlan} {r:Int} {L:List DPlace} {q:DPlan} {x:DPlace} (h0:errI w p r=0) (hL:linesI w p r=L) (ha:atN L L.length=0) (hx:L.getD 0 dPlace=x) (hq:planI w p r x=q):bestF w p r=(q,x.1,x.2.1,L,0):=by
 unfold bestF
 rw [if_neg (by rw [h0];decide),hL,ha,if_neg (by decide),show ((0:Int).toNat)=0 from rfl,hx,hq]
theorem bn_gen {w:DWorld} {p:DPlan} {r:Int} {L:List DPlace} (h0:errI w p r=0) (hL:linesI w p r=L) (ha:atN L L.length = -1):bestF w p r=(noPlan,0,0,L,4):=by
 unfold bestF
 rw [if_neg (by rw [h0];decide),hL,ha,if_pos (by decide)]
theorem be21:bestF (town21 1) p21 0=(q21,0,0,[(0,0,0,20)],0):=be_gen er21 li21 ha21 rfl hp21
theorem er210:errI (town21 0) p21 0=0:=by decide +kernel
theorem mz21:(makeF (town21 0) 0 st21).2=27:=by decide +kernel
theorem lz21:linesI (town21 0) p21 0=[(0,0,27,0)]:=by
 show [lineI (town21 0) p21 0 0 (0+0)]=_
 have h:(makeF (town21 0) p21.1 (stopsI p21.2.1 0 ((0:Nat):Int) ((0+0:Nat):Int))).2=27:=by
  rw [show stopsI p21.2.1 0 ((0:Nat):Int) ((0+0:Nat):Int)=st21 from si21];exact mz21
 rw [line_no (by rw [h];decide),h]
 rfl
theorem bz21:bestF (town21 0) p21 0=(noPlan,0,0,[(0,0,27,0)],4):=bn_gen er210 lz21 rfl
theorem ck21:checkI (town21 1) p21 0 q21 [(0,0,0,20)]=0:=by
 unfold checkI
 rw [be21,if_neg (by decide),if_pos ⟨rfl,rfl⟩]
theorem cz21:checkI (town21 0) p21 0 noPlan [(0,0,27,0)]=0:=by
 unfold checkI
 rw [bz21,if_neg (by decide),if_pos ⟨rfl,rfl⟩]
end T
end
section
open Go.RowKit Go.IntWalk
namespace T
def entRst21:Ent:=⟨18,.cons (.sl (.st (.cons (.int .i64) .bool))) (.cons (.int .i64) (.cons (.int .i64) (.cons (.int .i64) .nil))),(.sl (.st (.cons (.int .i64) .bool))),false,none,fun x=>List.length (α:=DStop) x.1≤1000,fun x=>stopsI x.1 x.2.1 x.2.2.1 x.2.2.2.1⟩
def csRst21:List Ent:=[] theorem hcsRst21 (f:FuncId):findEnt csRst21 f=findEnt [] f:=rfl
set_option maxHeartbeats 8000000 in
theorem conRst21:Con Tryz.prog entRst21:=by
 refine con_is (C:=csRst21) x18 (by kernel_rfl) (by simp [csRst21]) fun x hx hf=>?_
 obtain ⟨(ss:List DStop),(r:Int),(a:Int),(b:Int),_⟩:=x
 have hl:ss.length≤1000:=hx
 dsimp only [entRst21,x18,Z8,Za,Zb,Ze,Zg]
 by_cases h:a < 0∨b < a∨(ss.length:Int) < b
 ·have e:stopsI ss r a b=[]:=by unfold stopsI;rw [if_pos h]
  by_cases h1:a < 0
  ·simp only [↓hcsRst21,undef,e,h1,go_sem,YA,YS,YM,YL,YE,YD,YB,YN,YR,reduceIte,reduceCtorEq,↓reduceIte]
   try simp only [e,h1,td,reduceCtorEq]
  by_cases h2:b < a
  ·simp only [↓hcsRst21,undef,e,h1,h2,go_sem,YA,YS,YM,YL,YE,YD,YB,YN,YR,reduceIte,reduceCtorEq,↓reduceIte]
   try simp only [e,h1,h2,td,reduceCtorEq]
  have h3:(ss.length:Int) < b:=by omega
  have h4:b > (ss.length:Int):=h3
  simp only [↓hcsRst21,undef,e,h1,h2,h3,h4,go_sem,YA,YS,YM,YL,YE,YD,YB,YN,YR,reduceIte,reduceCtorEq,↓reduceIte]
  try simp only [e,h1,h2,h3,h4,td,reduceCtorEq]
 ·have h1:¬ a < 0:=by omega
  have h2:¬ b < a:=by omega
  have h3:¬ (ss.length:Int) < b:=by omega
  have h4:¬ b > (ss.length:Int):=h3
  obtain ⟨a,rfl⟩:∃ n:Nat,a=n:=⟨a.toNat,by omega⟩
  obtain ⟨b,rfl⟩:∃ n:Nat,b=n:=⟨b.toNat,by omega⟩
  rw [← outI_all (r:=r) (ss:=ss) (a:=a) (b:=b) (by omega) (by omega)]
  simp only [↓hcsRst21,undef,h1,h2,h3,h4,go_sem,YA,YS,YM,YL,YE,YD,YB,YN,YR,reduceIte,reduceCtorEq,↓reduceIte]
  try simp only [h1,h2,h3,h4,td,reduceCtorEq]
  refine XW_for 1000 x18_0d [0] Nat (fun j=>[(10,.val (.int .i64) (j:Int)),(9,.own 14)]) (fun j=>[(14,.row 72 (.st (.cons (.int .i64) .bool)) (outI ss r a b j))]) (fun j=>j≤ss.length+1) (fun j=>ss.length+1 - j) 0 ?_ ?_ ?_
  ·dsimp only [x18_0d];simp only [go_sem,YA,YS,YM,YL,YE,YD,YB,YN,YR,reduceIte,reduceCtorEq,↓reduceIte];try trivial
  ·exact Nat.zero_le _
  intro j hj
  have ho:=outI_len (ss:=ss) (r:=r) (a:=a) (b:=b) j
  dsimp only [x18_0,x18_0d,Z1,Z8,Za,Zb,Zc,Zg]
  by_cases hj':j≤ss.length
  ·have hji:(j:Int)≤(ss.length:Int):=by omega
   have w2:IntKind.i64.wrap ((j:Int)+1)=((j+1:Nat):Int):=i64_in _ (by omega)
   have b1:((outI ss r a b j).length+1) * 16≤140737488355328:=by omega
   have b2:((outI ss r a b j).length+1+1) * 16≤140737488355328:=by omega
   have b3:((outI ss r a b j).length+1+1+1) * 16≤140737488355328:=by omega
   have hs:outI ss r a b (j+1)=outI ss r a b j ++ ((if j=a then [(r,true)] else []) ++ ((if j=b then [(r,false)] else []) ++ if j < ss.length then [ss.getD j dStop] else [])):=rfl
   by_cases ca:j=a
   ·by_cases cb:j=b
    ·by_cases cl:j < ss.length
     ·have ca':((j:Int)=(a:Int))=True:=eq_true (by omega)
      have cb':((j:Int)=(b:Int))=True:=eq_true (by omega)
      have cl':((j:Int) < (ss.length:Int))=True:=eq_true (by omega)
      have cl'':(j < ss.length)=True:=eq_true (by omega)
      rw [if_pos ca,if_pos cb,if_pos cl] at hs
      try simp only [List.nil_append,List.append_nil] at hs
      simp only [↓hcsRst21,undef,hji,hj',w2,ca',cb',cl',cl'',b1,b2,b3,List.length_append,Int.toNat_natCast,go_sem,YA,YS,YM,YL,YE,YD,YB,YN,YR,reduceIte,reduceCtorEq,↓reduceIte]
      try simp only [hji,hj',w2,ca',cb',cl',cl'',b1,b2,b3,List.length_append,Int.toNat_natCast,td,reduceCtorEq]
      exact ⟨j+1,by omega,by omega,rfl,by rw [hs];try simp only [List.append_assoc]⟩
     ·have ca':((j:Int)=(a:Int))=True:=eq_true (by omega)
      have cb':((j:Int)=(b:Int))=True:=eq_true (by omega)
      have cl':((j:Int) < (ss.length:Int))=False:=eq_false (by omega)
      have cl'':(j < ss.length)=False:=eq_false (by omega)
      rw [if_pos ca,if_pos cb,if_neg cl] at hs
      try simp only [List.nil_append,List.append_nil] at hs
      simp only [↓hcsRst21,undef,hji,hj',w2,ca',cb',cl',cl'',b1,b2,b3,List.length_append,Int.toNat_natCast,go_sem,YA,YS,YM,YL,YE,YD,YB,YN,YR,reduceIte,reduceCtorEq,↓reduceIte]
      try simp only [hji,hj',w2,ca',cb',cl',cl'',b1,b2,b3,List.length_append,Int.toNat_natCast,td,reduceCtorEq]
      exact ⟨j+1,by omega,by omega,rfl,by rw [hs];try simp only [List.append_assoc]⟩
    ·by_cases cl:j < ss.length
     ·have ca':((j:Int)=(a:Int))=True:=eq_true (by omega)
      have cb':((j:Int)=(b:Int))=False:=eq_false (by omega)
      have cl':((j:Int) < (ss.length:Int))=True:=eq_true (by omega)
      have cl'':(j < ss.length)=True:=eq_true (by omega)
      rw [if_pos ca,if_neg cb,if_pos cl] at hs
      try simp only [List.nil_append,List.append_nil] at hs
      simp only [↓hcsRst21,undef,hji,hj',w2,ca',cb',cl',cl'',b1,b2,b3,List.length_append,Int.toNat_natCast,go_sem,YA,YS,YM,YL,YE,YD,YB,YN,YR,reduceIte,reduceCtorEq,↓reduceIte]
      try simp only [hji,hj',w2,ca',cb',cl',cl'',b1,b2,b3,List.length_append,Int.toNat_natCast,td,reduceCtorEq]
      exact ⟨j+1,by omega,by omega,rfl,by rw [hs];try simp only [List.append_assoc]⟩
     ·have ca':((j:Int)=(a:Int))=True:=eq_true (by omega)
      have cb':((j:Int)=(b:Int))=False:=eq_false (by omega)
      have cl':((j:Int) < (ss.length:Int))=False:=eq_false (by omega)
      have cl'':(j < ss.length)=False:=eq_false (by omega)
      rw [if_pos ca,if_neg cb,if_neg cl] at hs
      try simp only [List.nil_append,List.append_nil] at hs
      simp only [↓hcsRst21,undef,hji,hj',w2,ca',cb',cl',cl'',b1,b2,b3,List.length_append,Int.toNat_natCast,go_sem,YA,YS,YM,YL,YE,YD,YB,YN,YR,reduceIte,reduceCtorEq,↓reduceIte]
      try simp only [hji,hj',w2,ca',cb',cl',cl'',b1,b2,b3,List.length_append,Int.toNat_natCast,td,reduceCtorEq]
      exact ⟨j+1,by omega,by omega,rfl,by rw [hs];try simp only [List.append_assoc]⟩
   ·by_cases cb:j=b
    ·by_cases cl:j < ss.length
     ·have ca':((j:Int)=(a:Int))=False:=eq_false (by omega)
      have cb':((j:Int)=(b:Int))=True:=eq_true (by omega)
      have cl':((j:Int) < (ss.length:Int))=True:=eq_true (by omega)
      have cl'':(j < ss.length)=True:=eq_true (by omega)
      rw [if_neg ca,if_pos cb,if_pos cl] at hs
      try simp only [List.nil_append,List.append_nil] at hs
      simp only [↓hcsRst21,undef,hji,hj',w2,ca',cb',cl',cl'',b1,b2,b3,List.length_append,Int.toNat_natCast,go_sem,YA,YS,YM,YL,YE,YD,YB,YN,YR,reduceIte,reduceCtorEq,↓reduceIte]
      try simp only [hji,hj',w2,ca',cb',cl',cl'',b1,b2,b3,List.length_append,Int.toNat_natCast,td,reduceCtorEq]
      exact ⟨j+1,by omega,by omega,rfl,by rw [hs];try simp only [List.append_assoc]⟩
     ·have ca':((j:Int)=(a:Int))=False:=eq_false (by omega)
      have cb':((j:Int)=(b:Int))=True:=eq_true (by omega)
      have cl':((j:Int) < (ss.length:Int))=False:=eq_false (by omega)
      have cl'':(j < ss.length)=False:=eq_false (by omega)
      rw [if_neg ca,if_pos cb,if_neg cl] at hs
      try simp only [List.nil_append,List.append_nil] at hs
      simp only [↓hcsRst21,undef,hji,hj',w2,ca',cb',cl',cl'',b1,b2,b3,List.length_append,Int.toNat_natCast,go_sem,YA,YS,YM,YL,YE,YD,YB,YN,YR,reduceIte,reduceCtorEq,↓reduceIte]
      try simp only [hji,hj',w2,ca',cb',cl',cl'',b1,b2,b3,List.length_append,Int.toNat_natCast,td,reduceCtorEq]
      exact ⟨j+1,by omega,by omega,rfl,by rw [hs];try simp only [List.append_assoc]⟩
    ·by_cases cl:j < ss.length
     ·have ca':((j:Int)=(a:Int))=False:=eq_false (by omega)
      have cb':((j:Int)=(b:Int))=False:=eq_false (by omega)
      have cl':((j:Int) < (ss.length:Int))=True:=eq_true (by omega)
      have cl'':(j < ss.length)=True:=eq_true (by omega)
      rw [if_neg ca,if_neg cb,if_pos cl] at hs
      try simp only [List.nil_append,List.append_nil] at hs
      simp only [↓hcsRst21,undef,hji,hj',w2,ca',cb',cl',cl'',b1,b2,b3,List.length_append,Int.toNat_natCast,go_sem,YA,YS,YM,YL,YE,YD,YB,YN,YR,reduceIte,reduceCtorEq,↓reduceIte]
      try simp only [hji,hj',w2,ca',cb',cl',cl'',b1,b2,b3,List.length_append,Int.toNat_natCast,td,reduceCtorEq]
      exact ⟨j+1,by omega,by omega,rfl,by rw [hs];try simp only [List.append_assoc]⟩
     ·have ca':((j:Int)=(a:Int))=False:=eq_false (by omega)
      have cb':((j:Int)=(b:Int))=False:=eq_false (by omega)
      have cl':((j:Int) < (ss.length:Int))=False:=eq_false (by omega)
      have cl'':(j < ss.length)=False:=eq_false (by omega)
      rw [if_neg ca,if_neg cb,if_neg cl] at hs
      try simp only [List.nil_append,List.append_nil] at hs
      simp only [↓hcsRst21,undef,hji,hj',w2,ca',cb',cl',cl'',b1,b2,b3,List.length_append,Int.toNat_natCast,go_sem,YA,YS,YM,YL,YE,YD,YB,YN,YR,reduceIte,reduceCtorEq,↓reduceIte]
      try simp only [hji,hj',w2,ca',cb',cl',cl'',b1,b2,b3,List.length_append,Int.toNat_natCast,td,reduceCtorEq]
      exact ⟨j+1,by omega,by omega,rfl,by rw [hs];try simp only [List.append_assoc]⟩
  ·have hji:¬ (j:Int)≤(ss.length:Int):=by omega
   obtain rfl:j=ss.length+1:=by omega
   simp only [↓hcsRst21,undef,hji,hj',go_sem,YA,YS,YM,YL,YE,YD,YB,YN,YR,reduceIte,reduceCtorEq,↓reduceIte]
   try simp only [hji,hj',td,reduceCtorEq]
end T
end
end Go.Proofs.YtjlofnjlhgbmoaaGreat
