/- Parts of the proof, merged (by a program): definitions and lemmas for the law; no condition. -/
import Derived.Test.YtecdcopihghnaaaGreatV9
section
namespace Go.Proofs.YtecdcopihghnaaaGreat
set_option linter.unusedVariables false
set_option linter.unusedSimpArgs false
open Go.RowKit Go.IntWalk
namespace T
abbrev DPlan:=Int × List DStop × List DLeg × List Int
def noPlan:DPlan:=(0,[],[],[])
def makeF (w:DWorld) (c:Int) (ss:List DStop):DPlan × Int :=
 if (begF w c ss).2≠0 then (noPlan,(begF w c ss).2) else if (guardF (begF w c ss).1).2≠0 then (noPlan,20)
 else if restsF w (begF w c ss).1 (guardF (begF w c ss).1).1=false then (noPlan,29) else ((c,ss,(begF w c ss).1.2.1,(guardF (begF w c ss).1).1),0)
theorem makeF_eq (w:DWorld) (c:Int) (ss:List DStop):makeF w c ss=if (begF w c ss).2≠0 then (noPlan,(begF w c ss).2) else if (guardF (begF w c ss).1).2≠0 then (noPlan,20)
 else if restsF w (begF w c ss).1 (guardF (begF w c ss).1).1=false then (noPlan,29) else ((c,ss,(begF w c ss).1.2.1,(guardF (begF w c ss).1).1),0):=rfl
def okC (w:DWorld) (p:DPlan) (c:DChain):Bool:=decide (p.2.2.1=c.2.1) && (decide (p.2.2.2.length=c.1.length) && (allIn 1048576 p.2.2.2 && rightC c))
def checkP (w:DWorld) (p:DPlan):Int :=
 if (begF w p.1 p.2.1).2≠0 then (begF w p.1 p.2.1).2 else if okC w p (begF w p.1 p.2.1).1=false then 23
 else if keeps20 (begF w p.1 p.2.1).1 p.2.2.2=false then 20 else if restsF w (begF w p.1 p.2.1).1 p.2.2.2=false then 29 else 0
def lastI (l:List Int):Int:=l.getD (l.length - 1) 0
def endP (w:DWorld) (p:DPlan):Int × Int:=if checkP w p≠0 then (0,checkP w p) else (lastI (worstF (chainF w p.1 p.2.1).1 p.2.2.2).1,0)
theorem guard_fits {c:DChain} (h:(guardF c).2=0):fitsG c (guardF c).1=true:=by
 unfold guardF at h ⊢
 by_cases h1:rightC c=false
 ·rw [if_pos h1] at h;cases h
 ·rw [if_neg h1] at h ⊢
  by_cases h2:c.2.2.any (lateR c)=true
  ·rw [if_pos h2] at h;cases h
  ·rw [if_neg h2] at h ⊢
   by_cases h3:inTime c (playF (gsF c c.1.length) (highsF c.2.1))=false
   ·rw [if_pos h3] at h;cases h
   ·rw [if_neg h3]
    exact gs_fits (by simpa using h1) (late_none h2)
def entMk:Ent:=⟨16,.cons (.st (.cons (.int .i64) (.cons (.sl (.st (.cons (.int .i64) (.cons (.int .i64) (.cons (.sl (.int .i64)) (.sl (.int .i64))))))) (.cons (.sl (.st (.cons (.int .i64) (.cons (.int .i64) (.cons (.int .i64) (.cons (.int .i64) (.cons (.int .i64) (.cons (.int .i64) (.cons (.int .i64) (.cons (.int .i64) (.int .i64))))))))))) (.cons (.sl (.st (.cons (.int .i64) (.cons (.int .i64) (.cons (.int .i64) (.cons (.int .i64) (.cons (.int .i64) (.cons (.int .i64) (.cons (.int .i64) (.cons (.int .i64) (.cons (.int .i64) (.int .i64)))))))))))) (.cons (.sl (.st (.cons (.int .i64) (.cons (.int .i64) .bool)))) (.st (.cons (.int .i64) (.cons (.int .i64) (.int .i64)))))))))) (.cons (.int .i64) (.cons (.sl (.st (.cons (.int .i64) .bool))) .nil)),.cons (.st (.cons (.int .i64) (.cons (.sl (.st (.cons (.int .i64) .bool))) (.cons (.sl (.st (.cons (.int .i64) (.int .i64)))) (.sl (.int .i64)))))) (.cons (.int .i64) .nil),true,none,fun x=>List.length (α:=DStop) x.2.2.1≤24,fun x=>((makeF x.1 x.2.1 x.2.2.1).1,(makeF x.1 x.2.1 x.2.2.1).2,())⟩
def csMk:List Ent:=[entBeg,entGrd,entRst,entClS] theorem hcsMk (f:FuncId):findEnt csMk f=findEnt [entBeg,entGrd,entRst,entClS] f:=rfl
theorem conMk:Con Tryz.prog entMk:=by
 refine con_is (C:=csMk) x16 (by kernel_rfl) (by simp [csMk,conBeg,conGrd,conRst,conClS]) fun x hx hf=>?_
 obtain ⟨⟨(N:Int),(A:List DArc),(C:List DCar),(Q:List DReq),(P:List DPair),(S1:Int),(S2:Int),(S3:Int)⟩,(c:Int),(ss:List DStop),_⟩:=x
 replace hx:ss.length≤24:=hx
 have hx6:ss.length≤1000000:=by omega
 have hz:=makeF_eq (N,A,C,Q,P,S1,S2,S3) c ss
 generalize hb:begF (N,A,C,Q,P,S1,S2,S3) c ss=be at hz
 obtain ⟨ch,e⟩:=be
 dsimp only at hz
 by_cases he:e=0
 ·subst he
  rw [if_neg (by simp)] at hz
  generalize hg:guardF ch=gu at hz
  obtain ⟨gd,e⟩:=gu
  dsimp only at hz
  by_cases he:e=0
  ·subst he
   have hfit:fitsG ch gd=true:=by have:=guard_fits (c:=ch) (by rw [hg]);rwa [hg] at this
   rw [if_neg (by simp)] at hz
   obtain ⟨W,L,R⟩:=ch
   cases hr:restsF (N,A,C,Q,P,S1,S2,S3) (W,L,R) gd with
   | true =>
    rw [if_neg (by rw [hr];simp)] at hz
    dsimp only [entMk,x16];simp only [↓hcsMk,entBeg,entGrd,entRst,entClS,undef,hx,hx6,hb,hg,hfit,hr,hz,go_sem,Nat.reduceAdd,Nat.reduceSub,Nat.reduceMul,Nat.reduceLT,Nat.reduceLeDiff,Nat.reduceEqDiff,Nat.reduceBEq,Nat.reduceBNe,List.reduceReplicate,reduceIte,reduceCtorEq,↓reduceIte]
    try simp only [hx,hx6,hb,hg,hfit,hr,hz,td,reduceCtorEq]
    all_goals rfl
   | false =>
    rw [if_pos hr] at hz
    dsimp only [entMk,x16];simp only [↓hcsMk,entBeg,entGrd,entRst,entClS,undef,hx,hb,hg,hfit,hr,hz,go_sem,Nat.reduceAdd,Nat.reduceSub,Nat.reduceMul,Nat.reduceLT,Nat.reduceLeDiff,Nat.reduceEqDiff,Nat.reduceBEq,Nat.reduceBNe,List.reduceReplicate,reduceIte,reduceCtorEq,↓reduceIte]
    try simp only [hx,hb,hg,hfit,hr,hz,td,reduceCtorEq]
    all_goals rfl
  ·rw [if_pos he] at hz
   obtain ⟨W,L,R⟩:=ch
   dsimp only [entMk,x16];simp only [↓hcsMk,entBeg,entGrd,entRst,entClS,undef,hx,hb,hg,he,hz,go_sem,Nat.reduceAdd,Nat.reduceSub,Nat.reduceMul,Nat.reduceLT,Nat.reduceLeDiff,Nat.reduceEqDiff,Nat.reduceBEq,Nat.reduceBNe,List.reduceReplicate,reduceIte,reduceCtorEq,↓reduceIte]
   try simp only [hx,hb,hg,he,hz,td,reduceCtorEq]
   all_goals rfl
 ·rw [if_pos he] at hz
  obtain ⟨W,L,R⟩:=ch
  dsimp only [entMk,x16];simp only [↓hcsMk,entBeg,entGrd,entRst,entClS,undef,hx,hb,he,hz,go_sem,Nat.reduceAdd,Nat.reduceSub,Nat.reduceMul,Nat.reduceLT,Nat.reduceLeDiff,Nat.reduceEqDiff,Nat.reduceBEq,Nat.reduceBNe,List.reduceReplicate,reduceIte,reduceCtorEq,↓reduceIte]
  try simp only [hx,hb,he,hz,td,reduceCtorEq]
  all_goals rfl
theorem checkP_eq (w:DWorld) (p:DPlan):checkP w p=if (begF w p.1 p.2.1).2≠0 then (begF w p.1 p.2.1).2 else if okC w p (begF w p.1 p.2.1).1=false then 23
 else if keeps20 (begF w p.1 p.2.1).1 p.2.2.2=false then 20 else if restsF w (begF w p.1 p.2.1).1 p.2.2.2=false then 29 else 0:=rfl
theorem allIn_within {m:Int} {l:List Int}:allIn m l=true ↔ Within 0 m l:=by
 unfold allIn Within
 simp only [List.all_eq_true,decide_eq_true_eq]
theorem okC_fits {w:DWorld} {p:DPlan} {c:DChain} (h:okC w p c=true):rightC c=true∧fitsG c p.2.2.2=true:=by
 unfold okC at h
 simp only [Bool.and_eq_true,decide_eq_true_eq] at h
 obtain ⟨_,h2,h3,h4⟩:=h
 exact ⟨h4,fitsG_iff.2 ⟨h4,h2,fun x hx=>by have:=allIn_within.1 h3 x hx;omega⟩⟩
def entCkP:Ent:=⟨12,.cons (.st (.cons (.int .i64) (.cons (.sl (.st (.cons (.int .i64) (.cons (.int .i64) (.cons (.sl (.int .i64)) (.sl (.int .i64))))))) (.cons (.sl (.st (.cons (.int .i64) (.cons (.int .i64) (.cons (.int .i64) (.cons (.int .i64) (.cons (.int .i64) (.cons (.int .i64) (.cons (.int .i64) (.cons (.int .i64) (.int .i64))))))))))) (.cons (.sl (.st (.cons (.int .i64) (.cons (.int .i64) (.cons (.int .i64) (.cons (.int .i64) (.cons (.int .i64) (.cons (.int .i64) (.cons (.int .i64) (.cons (.int .i64) (.cons (.int .i64) (.int .i64)))))))))))) (.cons (.sl (.st (.cons (.int .i64) (.cons (.int .i64) .bool)))) (.st (.cons (.int .i64) (.cons (.int .i64) (.int .i64)))))))))) (.cons (.st (.cons (.int .i64) (.cons (.sl (.st (.cons (.int .i64) .bool))) (.cons (.sl (.st (.cons (.int .i64) (.int .i64)))) (.sl (.int .i64)))))) .nil),(.int .i64),false,none,fun x=>List.length (α:=DStop) (x.2.1:DPlan).2.1≤24,fun x=>checkP x.1 x.2.1⟩
def csCkP:List Ent:=[entBeg,entEqLg,entPin,entRctR,entKps,entRst] theorem hcsCkP (f:FuncId):findEnt csCkP f=findEnt [entBeg,entEqLg,entPin,entRctR,entKps,entRst] f:=rfl
theorem conCkP:Con Tryz.prog entCkP:=by
 refine con_is (C:=csCkP) x12 (by kernel_rfl) (by simp [csCkP,conBeg,conEqLg,conPin,conRctR,conKps,conRst]) fun x hx hf=>?_
 obtain ⟨⟨(N:Int),(A:List DArc),(C:List DCar),(Q:List DReq),(P:List DPair),(S1:Int),(S2:Int),(S3:Int)⟩,⟨(c:Int),(ss:List DStop),(Lg:List DLeg),(Lv:List Int)⟩,_⟩:=x
 replace hx:ss.length≤24:=hx
 have hz:=checkP_eq (N,A,C,Q,P,S1,S2,S3) (c,ss,Lg,Lv)
 dsimp only at hz
 generalize hb:begF (N,A,C,Q,P,S1,S2,S3) c ss=be at hz
 obtain ⟨ch,e⟩:=be
 dsimp only at hz
 obtain ⟨W,L,R⟩:=ch
 by_cases he:e=0
 ·subst he
  rw [if_neg (by simp)] at hz
  have hok:okC (N,A,C,Q,P,S1,S2,S3) (c,ss,Lg,Lv) (W,L,R)=(decide (Lg=L) && (decide (Lv.length=W.length) && (allIn 1048576 Lv && rightC (W,L,R)))):=rfl
  have hfit:=fun h=>okC_fits (w:=(N,A,C,Q,P,S1,S2,S3)) (p:=(c,ss,Lg,Lv)) (c:=(W,L,R)) h
  dsimp only at hfit
  cases hc:okC (N,A,C,Q,P,S1,S2,S3) (c,ss,Lg,Lv) (W,L,R) with
  | false =>
   rw [hc] at hok
   rw [if_pos hc] at hz
   dsimp only [entCkP,x12];simp only [↓hcsCkP,entBeg,entEqLg,entPin,entRctR,entKps,entRst,undef,hx,hb,hz,go_sem,Nat.reduceAdd,Nat.reduceSub,Nat.reduceMul,Nat.reduceLT,Nat.reduceLeDiff,Nat.reduceEqDiff,Nat.reduceBEq,Nat.reduceBNe,List.reduceReplicate,reduceIte,reduceCtorEq,↓reduceIte]
   try simp only [hx,hb,hz,td,reduceCtorEq]
   intro h
   exfalso
   rw [decide_eq_true h.1.1.1,decide_eq_true h.1.1.2,h.1.2,h.2] at hok
   exact Bool.noConfusion hok
  | true =>
   rw [hc] at hok
   obtain ⟨hr,hf2⟩:=hfit hc
   rw [if_neg (by rw [hc];simp)] at hz
   have hok2:=hok.symm
   simp only [Bool.and_eq_true,decide_eq_true_eq] at hok2
   obtain ⟨o1,o2,o3,o4⟩:=hok2
   subst o1
   have o2i:(Lv.length:Int)=(W.length:Int):=by omega
   cases hk:keeps20 (W,Lg,R) Lv with
   | false =>
    rw [if_pos hk] at hz
    dsimp only [entCkP,x12];simp only [↓hcsCkP,entBeg,entEqLg,entPin,entRctR,entKps,entRst,undef,hx,hb,o2,o2i,o3,hr,hf2,hk,hz,go_sem,Nat.reduceAdd,Nat.reduceSub,Nat.reduceMul,Nat.reduceLT,Nat.reduceLeDiff,Nat.reduceEqDiff,Nat.reduceBEq,Nat.reduceBNe,List.reduceReplicate,reduceIte,reduceCtorEq,↓reduceIte]
    try simp only [hx,hb,o2,o2i,o3,hr,hf2,hk,hz,td,reduceCtorEq]
   | true =>
    rw [if_neg (by rw [hk];simp)] at hz
    cases hs:restsF (N,A,C,Q,P,S1,S2,S3) (W,Lg,R) Lv with
    | false =>
     rw [if_pos hs] at hz
     dsimp only [entCkP,x12];simp only [↓hcsCkP,entBeg,entEqLg,entPin,entRctR,entKps,entRst,undef,hx,hb,o2,o2i,o3,hr,hf2,hk,hs,hz,go_sem,Nat.reduceAdd,Nat.reduceSub,Nat.reduceMul,Nat.reduceLT,Nat.reduceLeDiff,Nat.reduceEqDiff,Nat.reduceBEq,Nat.reduceBNe,List.reduceReplicate,reduceIte,reduceCtorEq,↓reduceIte]
     try simp only [hx,hb,o2,o2i,o3,hr,hf2,hk,hs,hz,td,reduceCtorEq]
    | true =>
     rw [if_neg (by rw [hs];simp)] at hz
     dsimp only [entCkP,x12];simp only [↓hcsCkP,entBeg,entEqLg,entPin,entRctR,entKps,entRst,undef,hx,hb,o2,o2i,o3,hr,hf2,hk,hs,hz,go_sem,Nat.reduceAdd,Nat.reduceSub,Nat.reduceMul,Nat.reduceLT,Nat.reduceLeDiff,Nat.reduceEqDiff,Nat.reduceBEq,Nat.reduceBNe,List.reduceReplicate,reduceIte,reduceCtorEq,↓reduceIte]
     try simp only [hx,hb,o2,o2i,o3,hr,hf2,hk,hs,hz,td,reduceCtorEq]
 ·rw [if_pos he] at hz
  dsimp only [entCkP,x12];simp only [↓hcsCkP,entBeg,entEqLg,entPin,entRctR,entKps,entRst,undef,hx,hb,he,hz,go_sem,Nat.reduceAdd,Nat.reduceSub,Nat.reduceMul,Nat.reduceLT,Nat.reduceLeDiff,Nat.reduceEqDiff,Nat.reduceBEq,Nat.reduceBNe,List.reduceReplicate,reduceIte,reduceCtorEq,↓reduceIte]
  try simp only [hx,hb,he,hz,td,reduceCtorEq]
  all_goals rfl
theorem beg_ok {w:DWorld} {c:Int} {ss:List DStop} (h:(begF w c ss).2=0):begF w c ss=chainF w c ss:=by
 unfold begF at h ⊢
 by_cases h1:asksF w c ss=false
 ·rw [if_pos h1] at h;cases h
 ·rw [if_neg h1] at h ⊢
  by_cases h2:(fitsF (carLoad (carAt w c)) ss w.2.2.2.1).2≠0
  ·rw [if_pos h2] at h;cases h
  ·rw [if_neg h2] at h ⊢
   by_cases h3:togF w.2.2.2.2.1 ss w.2.2.2.1=false
   ·rw [if_pos h3] at h;cases h
   ·rw [if_neg h3]
theorem check_ok {w:DWorld} {p:DPlan} (h:checkP w p=0):begF w p.1 p.2.1=chainF w p.1 p.2.1∧(chainF w p.1 p.2.1).2=0∧okC w p (chainF w p.1 p.2.1).1=true∧keeps20 (chainF w p.1 p.2.1).1 p.2.2.2=true∧restsF w (chainF w p.1 p.2.1).1 p.2.2.2=true:=by
 unfold checkP at h
 by_cases h1:(begF w p.1 p.2.1).2≠0
 ·rw [if_pos h1] at h;exact absurd h h1
 ·rw [if_neg h1] at h
  have hb:=beg_ok (Decidable.not_not.1 h1)
  by_cases h2:okC w p (begF w p.1 p.2.1).1=false
  ·rw [if_pos h2] at h;cases h
  ·rw [if_neg h2] at h
   by_cases h3:keeps20 (begF w p.1 p.2.1).1 p.2.2.2=false
   ·rw [if_pos h3] at h;cases h
   ·rw [if_neg h3] at h
    by_cases h4:restsF w (begF w p.1 p.2.1).1 p.2.2.2=false
    ·rw [if_pos h4] at h;cases h
    ·rw [hb] at h1 h2 h3 h4
     exact ⟨hb,Decidable.not_not.1 h1,by simpa using h2,by simpa using h3,by simpa using h4⟩
theorem endP_eq (w:DWorld) (p:DPlan):endP w p=if checkP w p≠0 then (0,checkP w p) else (lastI (worstF (chainF w p.1 p.2.1).1 p.2.2.2).1,0):=rfl
def entEnd:Ent:=⟨19,.cons (.st (.cons (.int .i64) (.cons (.sl (.st (.cons (.int .i64) (.cons (.int .i64) (.cons (.sl (.int .i64)) (.sl (.int .i64))))))) (.cons (.sl (.st (.cons (.int .i64) (.cons (.int .i64) (.cons (.int .i64) (.cons (.int .i64) (.cons (.int .i64) (.cons (.int .i64) (.cons (.int .i64) (.cons (.int .i64) (.int .i64))))))))))) (.cons (.sl (.st (.cons (.int .i64) (.cons (.int .i64) (.cons (.int .i64) (.cons (.int .i64) (.cons (.int .i64) (.cons (.int .i64) (.cons (.int .i64) (.cons (.int .i64) (.cons (.int .i64) (.int .i64)))))))))))) (.cons (.sl (.st (.cons (.int .i64) (.cons (.int .i64) .bool)))) (.st (.cons (.int .i64) (.cons (.int .i64) (.int .i64)))))))))) (.cons (.st (.cons (.int .i64) (.cons (.sl (.st (.cons (.int .i64) .bool))) (.cons (.sl (.st (.cons (.int .i64) (.int .i64)))) (.sl (.int .i64)))))) .nil),.cons (.int .i64) (.cons (.int .i64) .nil),true,none,fun x=>List.length (α:=DStop) (x.2.1:DPlan).2.1≤24,fun x=>((endP x.1 x.2.1).1,(endP x.1 x.2.1).2,())⟩
def csEnd:List Ent:=[entCkP,entChn,entWorst] theorem hcsEnd (f:FuncId):findEnt csEnd f=findEnt [entCkP,entChn,entWorst] f:=rfl
theorem conEnd:Con Tryz.prog entEnd:=by
 refine con_is (C:=csEnd) x19 (by kernel_rfl) (by simp [csEnd,conCkP,conChn,conWorst]) fun x hx hf=>?_
 obtain ⟨⟨(N:Int),(A:List DArc),(C:List DCar),(Q:List DReq),(P:List DPair),(S1:Int),(S2:Int),(S3:Int)⟩,⟨(c:Int),(ss:List DStop),(Lg:List DLeg),(Lv:List Int)⟩,_⟩:=x
 replace hx:ss.length≤24:=hx
 have hz:=endP_eq (N,A,C,Q,P,S1,S2,S3) (c,ss,Lg,Lv)
 have hck:=fun h=>check_ok (w:=(N,A,C,Q,P,S1,S2,S3)) (p:=(c,ss,Lg,Lv)) h
 dsimp only at hz hck
 generalize he:checkP (N,A,C,Q,P,S1,S2,S3) (c,ss,Lg,Lv)=e at hz hck
 by_cases h0:e=0
 ·subst h0
  rw [if_neg (by simp)] at hz
  obtain ⟨_,_,hok,_,_⟩:=hck rfl
  generalize hch:chainF (N,A,C,Q,P,S1,S2,S3) c ss=ch at hz hok
  obtain ⟨⟨W,L,R⟩,e2⟩:=ch
  have hfit:=(okC_fits hok).2
  dsimp only at hfit hz
  have hw:worstF (W,L,R) Lv=(playF Lv (highsF L),0):=by unfold worstF;rw [if_pos hfit]
  have hpl:(playF Lv (highsF L)).length=L.length+1:=by rw [playF_len,highs_len]
  have hlen:=(rightC_iff.1 (fitsG_iff.1 hfit).1).1
  dsimp only at hlen
  have w1:IntKind.i64.wrap (((L.length+1:Nat):Int) - 1)=(L.length:Int):=(i64_in _ (by omega)).trans (by omega)
  rw [hw] at hz
  unfold lastI at hz
  dsimp only at hz
  rw [hpl,Nat.add_sub_cancel] at hz
  have hl0:L.length < L.length+1:=by omega
  dsimp only [entEnd,x19];simp only [↓hcsEnd,entCkP,entChn,entWorst,undef,hx,he,hch,hw,hpl,w1,hl0,Int.toNat_natCast,go_sem,Nat.reduceAdd,Nat.reduceSub,Nat.reduceMul,Nat.reduceLT,Nat.reduceLeDiff,Nat.reduceEqDiff,Nat.reduceBEq,Nat.reduceBNe,List.reduceReplicate,reduceIte,reduceCtorEq,↓reduceIte]
  try simp only [hx,he,hch,hw,hpl,w1,hl0,Int.toNat_natCast,td,reduceCtorEq]
  rw [hz]
 ·rw [if_pos h0] at hz
  dsimp only [entEnd,x19];simp only [↓hcsEnd,entCkP,entChn,entWorst,undef,hx,he,h0,hz,go_sem,Nat.reduceAdd,Nat.reduceSub,Nat.reduceMul,Nat.reduceLT,Nat.reduceLeDiff,Nat.reduceEqDiff,Nat.reduceBEq,Nat.reduceBNe,List.reduceReplicate,reduceIte,reduceCtorEq,↓reduceIte]
  try simp only [hx,he,h0,hz,td,reduceCtorEq]
end T
end Go.Proofs.YtecdcopihghnaaaGreat
end
section
namespace Go.Proofs.YtecdcopihghnaaaGreat
set_option linter.unusedSimpArgs false
set_option linter.unusedVariables false
namespace T
theorem tm_0 (g t:List Int):tmF g t 0=if 0 < g.getD 0 0 then g.getD 0 0 else 0:=rfl
theorem tm_s (g t:List Int) (k:Nat):tmF g t (k+1)=if tmF g t k+t.getD k 0 < g.getD (k+1) 0 then g.getD (k+1) 0 else tmF g t k+t.getD k 0:=rfl
theorem tm_ge (g t:List Int):∀ k,g.getD k 0≤tmF g t k
 | 0=>by rw [tm_0];split <;> omega
 | k+1=>by rw [tm_s];split <;> omega
theorem tm_mono {g t u:List Int}:∀ k,(∀ j,j < k→t.getD j 0≤u.getD j 0)→tmF g t k≤tmF g u k
 | 0,_=>Int.le_refl _
 | k+1,h=>by
  have h1:=tm_mono (g:=g) k (fun j hj=>h j (by omega))
  have h2:=h k (by omega)
  rw [tm_s,tm_s]
  split <;> split <;> omega
theorem tm_congr {g t u:List Int} (k:Nat) (h:∀ j,j < k→t.getD j 0=u.getD j 0):tmF g t k=tmF g u k :=
 Int.le_antisymm (tm_mono k fun j hj=>by rw [h j hj];exact Int.le_refl _) (tm_mono k fun j hj=>by rw [h j hj];exact Int.le_refl _)
theorem tm_gap {g t u:List Int} {a:Nat} (h0:tmF g u a≤tmF g t a):∀ d,(∀ j,a≤j→j < a+d→t.getD j 0≤u.getD j 0)→tmF g t (a+d) - tmF g t a≤tmF g u (a+d) - tmF g u a
 | 0,_=>by rw [Nat.add_zero];omega
 | d+1,h=>by
  have h1:=tm_gap h0 d (fun j h1 h2=>h j h1 (by omega))
  have h2:=h (a+d) (by omega) (by omega)
  rw [← Nat.add_assoc,tm_s,tm_s]
  split <;> split <;> omega
theorem tm_long {g u:List Int} {L:List DLeg} {i:Nat}:∀ d,(∀ j,i≤j→j < i+d→(L.getD j (0,0)).2≤u.getD j 0)→tmF g u i+(psF L (i+d) - psF L i)≤tmF g u (i+d)
 | 0,_=>by rw [Nat.add_zero];omega
 | d+1,h=>by
  have h1:=tm_long (g:=g) d (fun j h1 h2=>h j h1 (by omega))
  have h2:=h (i+d) (by omega) (by omega)
  have e:psF L (i+d+1)=psF L (i+d)+(L.getD (i+d) (0,0)).2:=rfl
  rw [← Nat.add_assoc,tm_s,e]
  split <;> omega
theorem tm_short {g t:List Int} {L:List DLeg} {k:Nat}:∀ d,(∀ j,k≤j→j < k+d→t.getD j 0≤(L.getD j (0,0)).2)→tmF g t (k+d)≤tmF g t k+(psF L (k+d) - psF L k)∨∃ i,i < d∧tmF g t (k+d)≤g.getD (k+1+i) 0+(psF L (k+d) - psF L (k+1+i))
 | 0,_=>by rw [Nat.add_zero];exact .inl (by omega)
 | d+1,h=>by
  have h2:=h (k+d) (by omega) (by omega)
  have e:psF L (k+d+1)=psF L (k+d)+(L.getD (k+d) (0,0)).2:=rfl
  rw [← Nat.add_assoc,tm_s,e]
  split
  ·exact .inr ⟨d,by omega,by rw [show k+1+d=k+d+1 by omega,e];omega⟩
  ·rcases tm_short (g:=g) d (fun j h1 h2=>h j h1 (by omega)) with h1 | ⟨i,hi,h1⟩
   ·exact .inl (by omega)
   ·exact .inr ⟨i,by omega,by omega⟩
theorem cut_getD {l h:List Int} {k j:Nat} (hl:l.length=h.length) (hk:k≤l.length):(l.take k ++ h.drop k).getD j 0=if j < k then l.getD j 0 else h.getD j 0:=by
 have e:(l.take k).length=k:=by rw [List.length_take];omega
 simp only [List.getD]
 split
 ·rename_i c
  rw [List.getElem?_append_left (by omega),List.getElem?_take_of_lt c]
 ·rename_i c
  rw [List.getElem?_append_right (by omega),e,List.getElem?_drop,show k+(j - k)=j by omega]
theorem cut_len {l h:List Int} {k:Nat} (hl:l.length=h.length) (hk:k≤l.length):(l.take k ++ h.drop k).length=l.length:=by
 rw [List.length_append,List.length_take,List.length_drop];omega
theorem cut_took {c:DChain} (h:rightC c=true) {k:Nat} (hk:k≤c.2.1.length):tookB c.2.1 ((lowsF c.2.1).take k ++ (highsF c.2.1).drop k)=true:=by
 have hl:(lowsF c.2.1).length=(highsF c.2.1).length:=by rw [lows_len,highs_len]
 have hk':k≤(lowsF c.2.1).length:=by rw [lows_len];exact hk
 refine tookB_iff.2 ⟨by rw [cut_len hl hk',lows_len],fun j hj=>?_⟩
 have h1:=right_leg h hj
 rw [cut_getD hl hk',lows_getD,highs_getD]
 split <;> omega
theorem cut_run {c:DChain} {g:List Int} (h:fitsG c g=true) {k:Nat} (hk:k≤c.2.1.length):(rnF c g ((lowsF c.2.1).take k ++ (highsF c.2.1).drop k)).1=playF g ((lowsF c.2.1).take k ++ (highsF c.2.1).drop k):=by
 unfold rnF
 rw [if_pos ⟨h,cut_took (fitsG_iff.1 h).1 hk⟩]
theorem keeps20_iff {c:DChain} {g:List Int}:keeps20 c g=true ↔ (cutF c g (lowsF c.2.1) (highsF c.2.1) 0=true∧cutF c g (lowsF c.2.1) (highsF c.2.1) c.2.1.length=true)∧∀ r ∈ c.2.2,cutF c g (lowsF c.2.1) (highsF c.2.1) r.1.toNat=true:=by
 unfold keeps20
 simp only [Bool.and_eq_true,List.all_eq_true]
theorem cut_keeps {c:DChain} {g:List Int} (h:fitsG c g=true) {k:Nat} (hk:k≤c.2.1.length) (q:cutF c g (lowsF c.2.1) (highsF c.2.1) k=true):keepsF c (playF g ((lowsF c.2.1).take k ++ (highsF c.2.1).drop k))=true:=by
 unfold cutF at q
 rwa [cut_run h hk] at q
theorem keep_win {c:DChain} {g t:List Int} (q:keepsF c (playF g t)=true) {k:Nat} (hk:k < c.1.length):(c.1.getD k (0,0)).1≤tmF g t k∧tmF g t k≤(c.1.getD k (0,0)).2:=by
 obtain ⟨h1,h2,h3,_⟩:=keepsF_iff.1 q
 rw [playF_len] at h2
 have:=h3 k hk
 rwa [playF_getD g t (by omega)] at this
theorem keep_ride {c:DChain} {g t:List Int} (q:keepsF c (playF g t)=true) {r:DRide} (hr:r ∈ c.2.2):tmF g t r.2.1.toNat - tmF g t r.1.toNat≤r.2.2:=by
 obtain ⟨h1,h2,_,h3⟩:=keepsF_iff.1 q
 rw [playF_len] at h2
 have h4:=(rightC_iff.1 h1).2.2.2 r hr
 have:=h3 r hr
 rwa [playF_getD g t (by omega),playF_getD g t (by omega)] at this
theorem keep_mk {c:DChain} {g t:List Int} (h:rightC c=true) (ht:t.length=c.2.1.length) (hw:∀ k,k < c.1.length→(c.1.getD k (0,0)).1≤tmF g t k∧tmF g t k≤(c.1.getD k (0,0)).2) (hr:∀ r ∈ c.2.2,tmF g t r.2.1.toNat - tmF g t r.1.toNat≤r.2.2):keepsF c (playF g t)=true:=by
 have h1:=(rightC_iff.1 h).1
 refine keepsF_iff.2 ⟨h,by rw [playF_len];omega,fun k hk=>?_,fun r hr'=>?_⟩
 ·rw [playF_getD g t (by omega)];exact hw k hk
 ·have h4:=(rightC_iff.1 h).2.2.2 r hr'
  rw [playF_getD g t (by omega),playF_getD g t (by omega)];exact hr r hr'
theorem keeps_all {c:DChain} {g t:List Int} (h:fitsG c g=true) (q:keeps20 c g=true) (ht:tookB c.2.1 t=true):keepsF c (playF g t)=true:=by
 have hr:=(fitsG_iff.1 h).1
 have hn:=(rightC_iff.1 hr).1
 obtain ⟨⟨q0,q1⟩,q2⟩:=keeps20_iff.1 q
 obtain ⟨t1,t2⟩:=tookB_iff.1 ht
 have hl:(lowsF c.2.1).length=(highsF c.2.1).length:=by rw [lows_len,highs_len]
 have k0:=cut_keeps h (Nat.zero_le _) q0
 have k1:=cut_keeps h (Nat.le_refl _) q1
 refine keep_mk hr t1 (fun k hk=>⟨?_,?_⟩) fun r hr'=>?_
 ·refine Int.le_trans (keep_win k1 hk).1 (tm_mono k fun j hj=>?_)
  rw [cut_getD hl (by rw [lows_len];exact Nat.le_refl _),if_pos (by omega),lows_getD]
  exact (t2 j (by omega)).1
 ·refine Int.le_trans (tm_mono k fun j hj=>?_) (keep_win k0 hk).2
  rw [cut_getD hl (Nat.zero_le _),if_neg (by omega),highs_getD]
  exact (t2 j (by omega)).2
 ·have h4:=(rightC_iff.1 hr).2.2.2 r hr'
  have hk:r.1.toNat≤c.2.1.length:=by omega
  have h5:=keep_ride (cut_keeps h hk (q2 r hr')) hr'
  have h6:=tm_gap (g:=g) (t:=t) (u:=(lowsF c.2.1).take r.1.toNat ++ (highsF c.2.1).drop r.1.toNat) (a:=r.1.toNat) (tm_mono _ fun j hj=>by
   rw [cut_getD hl (by rw [lows_len];exact hk),if_pos hj,lows_getD]
   exact (t2 j (by omega)).1) (r.2.1.toNat - r.1.toNat) (fun j h1 h2=>by
   rw [cut_getD hl (by rw [lows_len];exact hk),if_neg (by omega),highs_getD]
   exact (t2 j (by omega)).2)
  rw [show r.1.toNat+(r.2.1.toNat - r.1.toNat)=r.2.1.toNat by omega] at h6
  omega
theorem mF_ge {c:DChain} {k:Nat} {rest:List Int} {r:DRide} {a:Int}:∀ n,a≤mF c k rest r a n∧∀ i,i < n→rest.getD i 0+(psF c.2.1 r.2.1.toNat - psF c.2.1 (k+1+i)) - r.2.2≤mF c k rest r a n
 | 0=>⟨Int.le_refl _,fun i hi=>by omega⟩
 | n+1=>by
  obtain ⟨h1,h2⟩:=mF_ge (c:=c) (k:=k) (rest:=rest) (r:=r) (a:=a) n
  have h3:=maxI_ge (mF c k rest r a n) (rest.getD n 0+(psF c.2.1 r.2.1.toNat - psF c.2.1 (k+1+n)) - r.2.2)
  refine ⟨Int.le_trans h1 h3.1,fun i hi=>?_⟩
  rcases Nat.lt_or_ge i n with c' | c'
  ·exact Int.le_trans (h2 i c') h3.1
  ·obtain rfl:i=n:=by omega
   exact h3.2.1
theorem mF_le {c:DChain} {k:Nat} {rest:List Int} {r:DRide} {a M:Int} (ha:a≤M):∀ n,(∀ i,i < n→rest.getD i 0+(psF c.2.1 r.2.1.toNat - psF c.2.1 (k+1+i)) - r.2.2≤M)→mF c k rest r a n≤M
 | 0,_=>ha
 | n+1,h=>by
  have h1:=mF_le (c:=c) (k:=k) (rest:=rest) (r:=r) ha n (fun i hi=>h i (by omega))
  have h2:=h n (by omega)
  have h3:=maxI_ge (mF c k rest r a n) (rest.getD n 0+(psF c.2.1 r.2.1.toNat - psF c.2.1 (k+1+n)) - r.2.2)
  show maxI _ _≤M
  omega
theorem rF_ge {c:DChain} {k:Nat} {rest:List Int} {a:Int} {r:DRide}:a≤rF c k rest a r∧(r.1=k→∀ i,i < r.2.1.toNat - k→rest.getD i 0+(psF c.2.1 r.2.1.toNat - psF c.2.1 (k+1+i)) - r.2.2≤rF c k rest a r):=by
 unfold rF
 split
 ·have:=mF_ge (c:=c) (k:=k) (rest:=rest) (r:=r) (a:=a) (r.2.1.toNat - k)
  exact ⟨this.1,fun _=>this.2⟩
 ·rename_i h;exact ⟨Int.le_refl _,fun q=>absurd q h⟩
theorem rFold_ge {c:DChain} {k:Nat} {rest:List Int}:∀ (l:List DRide) (a:Int),a≤l.foldl (rF c k rest) a∧∀ r ∈ l,r.1=k→∀ i,i < r.2.1.toNat - k→rest.getD i 0+(psF c.2.1 r.2.1.toNat - psF c.2.1 (k+1+i)) - r.2.2≤l.foldl (rF c k rest) a
 | [],a=>⟨Int.le_refl _,fun r hr=>absurd hr List.not_mem_nil⟩
 | x :: l,a=>by
  obtain ⟨h1,h2⟩:=rFold_ge (c:=c) (k:=k) (rest:=rest) l (rF c k rest a x)
  have h3:=rF_ge (c:=c) (k:=k) (rest:=rest) (a:=a) (r:=x)
  refine ⟨Int.le_trans h3.1 h1,fun r hr e i hi=>?_⟩
  rcases List.mem_cons.1 hr with rfl | hr
  ·exact Int.le_trans (h3.2 e i hi) h1
  ·exact h2 r hr e i hi
theorem rFold_le {c:DChain} {k:Nat} {rest:List Int} {M:Int}:∀ (l:List DRide),(∀ r ∈ l,r.1=k→∀ i,i < r.2.1.toNat - k→rest.getD i 0+(psF c.2.1 r.2.1.toNat - psF c.2.1 (k+1+i)) - r.2.2≤M)→∀ a:Int,a≤M→l.foldl (rF c k rest) a≤M
 | [],_,a,ha=>ha
 | x :: l,h,a,ha=>by
  refine rFold_le l (fun r hr=>h r (by simp [hr])) _ ?_
  unfold rF
  split
  ·rename_i e;exact mF_le ha _ (h x (by simp) e)
  ·exact ha
theorem gs_shift (c:DChain) (j:Nat):∀ i q,(gsF c (j+i)).getD (i+q) 0=(gsF c j).getD q 0
 | 0,q=>by rw [Nat.zero_add];rfl
 | i+1,q=>by
  have:=gs_shift c j i q
  show (gkF c _ (gsF c (j+i)) :: gsF c (j+i)).getD (i+1+q) 0=_
  rw [show i+1+q=(i+q)+1 by omega,List.getD_cons_succ]
  exact this
def gsA (c:DChain) (k:Nat):Int:=(gsF c c.1.length).getD k 0
theorem gsA_rest (c:DChain) {k:Nat} (hk:k < c.1.length) (q:Nat):(gsF c (c.1.length - (k+1))).getD q 0=gsA c (k+1+q):=by
 have:=gs_shift c (c.1.length - (k+1)) (k+1) q
 rw [show c.1.length - (k+1)+(k+1)=c.1.length by omega] at this
 exact this.symm
theorem gsA_eq (c:DChain) {k:Nat} (hk:k < c.1.length):gsA c k=gkF c k (gsF c (c.1.length - (k+1))):=by
 have:=gs_shift c (c.1.length - k) k 0
 rw [show c.1.length - k+k=c.1.length by omega,gs_step c hk,List.getD_cons_zero] at this
 exact this
theorem gsA_ge {c:DChain} {k:Nat} (hk:k < c.1.length):(c.1.getD k (0,0)).1≤gsA c k∧∀ r ∈ c.2.2,r.1=k→∀ i,i < r.2.1.toNat - k→gsA c (k+1+i)+(psF c.2.1 r.2.1.toNat - psF c.2.1 (k+1+i)) - r.2.2≤gsA c k:=by
 rw [gsA_eq c hk]
 obtain ⟨h1,h2⟩:=rFold_ge (c:=c) (k:=k) (rest:=gsF c (c.1.length - (k+1))) c.2.2 (c.1.getD k (0,0)).1
 refine ⟨h1,fun r hr e i hi=>?_⟩
 rw [← gsA_rest c hk]
 exact h2 r hr e i hi
theorem gsA_le {c:DChain} {k:Nat} (hk:k < c.1.length) {M:Int} (h0:(c.1.getD k (0,0)).1≤M) (h:∀ r ∈ c.2.2,r.1=k→∀ i,i < r.2.1.toNat - k→gsA c (k+1+i)+(psF c.2.1 r.2.1.toNat - psF c.2.1 (k+1+i)) - r.2.2≤M):gsA c k≤M:=by
 rw [gsA_eq c hk]
 refine rFold_le _ (fun r hr e i hi=>?_) _ h0
 rw [gsA_rest c hk]
 exact h r hr e i hi
theorem guard_keeps {c:DChain} (h:(guardF c).2=0) {t:List Int} (ht:tookB c.2.1 t=true):keepsF c (playF (guardF c).1 t)=true:=by
 unfold guardF at h ⊢
 by_cases h1:rightC c=false
 ·rw [if_pos h1] at h;cases h
 by_cases h2:c.2.2.any (lateR c)=true
 ·rw [if_neg h1,if_pos h2] at h;cases h
 by_cases h3:inTime c (playF (gsF c c.1.length) (highsF c.2.1))=false
 ·rw [if_neg h1,if_neg h2,if_pos h3] at h;cases h
 rw [if_neg h1,if_neg h2,if_neg h3]
 show keepsF c (playF (gsF c c.1.length) t)=true
 have hr:rightC c=true:=by rwa [Bool.not_eq_false] at h1
 have hn:=(rightC_iff.1 hr).1
 rw [Bool.not_eq_false] at h3
 have hl:=late_none h2
 obtain ⟨t1,t2⟩:=tookB_iff.1 ht
 refine keep_mk hr t1 (fun k hk=>⟨Int.le_trans (gsA_ge hk).1 (tm_ge _ _ k),?_⟩) fun r hr'=>?_
 ·have h4:=inTime_iff.1 h3 k (by rw [playF_len,highs_len];omega)
  rw [playF_getD _ _ (by rw [highs_len];omega)] at h4
  refine Int.le_trans (tm_mono k fun j hj=>?_) h4
  rw [highs_getD]
  exact (t2 j (by omega)).2
 ·have h4:=(rightC_iff.1 hr).2.2.2 r hr'
  have h5:=hl r hr'
  unfold lateR at h5
  have h5:=of_decide_eq_false h5
  have h6:=tm_short (g:=gsF c c.1.length) (t:=t) (L:=c.2.1) (k:=r.1.toNat) (r.2.1.toNat - r.1.toNat) (fun j h1 h2=>(t2 j (by omega)).2)
  rw [show r.1.toNat+(r.2.1.toNat - r.1.toNat)=r.2.1.toNat by omega] at h6
  rcases h6 with h6 | ⟨i,hi,h6⟩
  ·omega
  ·have h7:=(gsA_ge (c:=c) (k:=r.1.toNat) (by omega)).2 r hr' (by omega) i hi
   have h8:=tm_ge (gsF c c.1.length) t r.1.toNat
   unfold gsA at h7
   omega
theorem guard_least {c:DChain} {g:List Int} (h:fitsG c g=true) (q:keeps20 c g=true):guardF c=(gsF c c.1.length,0):=by
 have hr:=(fitsG_iff.1 h).1
 have hn:=(rightC_iff.1 hr).1
 obtain ⟨⟨q0,q1⟩,q2⟩:=keeps20_iff.1 q
 have hl:(lowsF c.2.1).length=(highsF c.2.1).length:=by rw [lows_len,highs_len]
 have hll:=lows_len c.2.1
 have k0:=cut_keeps h (Nat.zero_le _) q0
 have k1:=cut_keeps h (Nat.le_refl _) q1
 have elow:∀ k,k≤c.2.1.length→tmF g ((lowsF c.2.1).take c.2.1.length ++ (highsF c.2.1).drop c.2.1.length) k=tmF g (lowsF c.2.1) k:=fun k hk=>tm_congr k fun j hj=>by
  rw [cut_getD hl (by omega),if_pos (by omega)]
 have ehigh:∀ k,tmF g ((lowsF c.2.1).take 0 ++ (highsF c.2.1).drop 0) k=tmF g (highsF c.2.1) k:=fun k=>tm_congr k fun j hj=>by
  rw [cut_getD hl (Nat.zero_le _),if_neg (by omega)]
 have hcut:∀ r ∈ c.2.2,∀ i,r.1.toNat≤i→i≤r.2.1.toNat→tmF g (lowsF c.2.1) i+(psF c.2.1 r.2.1.toNat - psF c.2.1 i) - r.2.2≤tmF g (lowsF c.2.1) r.1.toNat:=fun r hr' i hi1 hi2=>by
  have h4:=(rightC_iff.1 hr).2.2.2 r hr'
  have hk:r.1.toNat≤c.2.1.length:=by omega
  have h5:=keep_ride (cut_keeps h hk (q2 r hr')) hr'
  have h6:tmF g ((lowsF c.2.1).take r.1.toNat ++ (highsF c.2.1).drop r.1.toNat) r.1.toNat=tmF g (lowsF c.2.1) r.1.toNat:=tm_congr _ fun j hj=>by rw [cut_getD hl (by omega),if_pos hj]
  have h7:tmF g (lowsF c.2.1) i≤tmF g ((lowsF c.2.1).take r.1.toNat ++ (highsF c.2.1).drop r.1.toNat) i:=tm_mono i fun j hj=>by
   have:=right_leg hr (k:=j) (by omega)
   rw [cut_getD hl (by omega),lows_getD,highs_getD]
   split <;> omega
  have h8:=tm_long (g:=g) (u:=(lowsF c.2.1).take r.1.toNat ++ (highsF c.2.1).drop r.1.toNat) (L:=c.2.1) (i:=i) (r.2.1.toNat - i) fun j h1 h2=>by
   rw [cut_getD hl (by omega),if_neg (by omega),highs_getD];exact Int.le_refl _
  rw [show i+(r.2.1.toNat - i)=r.2.1.toNat by omega] at h8
  omega
 have hm:∀ j k,k < c.1.length→c.1.length≤k+j→gsA c k≤tmF g (lowsF c.2.1) k:=by
  intro j
  induction j with
  | zero=>intro k h1 h2;omega
  | succ j ih =>
   intro k h1 h2
   refine gsA_le h1 ?_ fun r hr' e i hi=>?_
   ·rw [← elow k (by omega)];exact (keep_win k1 h1).1
   ·have h4:=(rightC_iff.1 hr).2.2.2 r hr'
    have h5:=ih (k+1+i) (by omega) (by omega)
    have h6:=hcut r hr' (k+1+i) (by omega) (by omega)
    rw [show r.1.toNat=k by omega] at h6
    omega
 have hlate:¬ c.2.2.any (lateR c)=true:=fun a=>by
  obtain ⟨r,hr',a⟩:=late_any.1 a
  have h4:=(rightC_iff.1 hr).2.2.2 r hr'
  have h6:=hcut r hr' r.1.toNat (Nat.le_refl _) (by omega)
  unfold lateR at a
  have a:=of_decide_eq_true a
  omega
 have hhigh:∀ k,k≤c.2.1.length→tmF (gsF c c.1.length) (highsF c.2.1) k≤tmF g (highsF c.2.1) k:=by
  intro k
  have hlo:∀ k,k≤c.2.1.length→gsA c k≤tmF g (highsF c.2.1) k:=fun k hk=>Int.le_trans (hm c.1.length k (by omega) (by omega)) (tm_mono k fun j hj=>by
   have:=right_leg hr (k:=j) (by omega)
   rw [lows_getD,highs_getD];omega)
  induction k with
  | zero =>
   intro _
   have h1:=hlo 0 (Nat.zero_le _)
   unfold gsA at h1
   rw [tm_0]
   split
   ·exact h1
   ·rw [tm_0];split <;> omega
  | succ k ih =>
   intro hk
   have h1:=hlo (k+1) hk
   have h2:=ih (by omega)
   unfold gsA at h1
   rw [tm_s]
   split
   ·exact h1
   ·rw [tm_s];split <;> omega
 have htime:inTime c (playF (gsF c c.1.length) (highsF c.2.1))=true:=inTime_iff.2 fun k hk=>by
  rw [playF_len,highs_len] at hk
  rw [playF_getD _ _ (by rw [highs_len];omega)]
  have:=(keep_win k0 (k:=k) (by omega)).2
  rw [ehigh] at this
  exact Int.le_trans (hhigh k (by omega)) this
 unfold guardF
 rw [if_neg (by rw [hr];decide),if_neg hlate,if_neg (by rw [htime];decide)]
end T
end Go.Proofs.YtecdcopihghnaaaGreat
end
section
namespace Go.Proofs.YtecdcopihghnaaaGreat
set_option linter.unusedSimpArgs false
set_option linter.unusedVariables false
namespace T
theorem chain_ok {w:DWorld} {c:Int} {ss:List DStop} (h:(chainF w c ss).2=0):asksF w c ss=true∧chainF w c ss=((winsF w c ss,legsF w c ss,ridesR w ss ss.length),0):=by
 unfold chainF at h ⊢
 by_cases h1:asksF w c ss=false
 ·rw [if_pos h1] at h;cases h
 by_cases h2:(List.range (ss.length+1)).any (badW w c ss)=true
 ·rw [if_neg h1,if_pos h2] at h;cases h
 by_cases h3:(List.range ss.length).any (fun k=>!(legAt w c ss k).2)=true
 ·rw [if_neg h1,if_neg h2,if_pos h3] at h;cases h
 rw [if_neg h1,if_neg h2,if_neg h3]
 exact ⟨by rwa [Bool.not_eq_false] at h1,rfl⟩
theorem wins_at (w:DWorld) (c:Int) (ss:List DStop) {k:Nat} (hk:k≤ss.length):(winsF w c ss).getD k (0,0)=winF w c ss k:=by
 have:k < ss.length+1:=by omega
 simp [winsF,List.getD,this]
def takeA (l:List DLeg) (b:List Int) (k:Nat):Int:=(l.getD k (0,0)).1+(if k < b.length then (b.getD k 0) % ((l.getD k (0,0)).2 - (l.getD k (0,0)).1+1) else 0)
def takesF (l:List DLeg) (b:List Int):List Int:=(List.range l.length).map (takeA l b)
theorem takes_took {l:List DLeg} (h:∀ x ∈ l,legB x=true) (b:List Int):tookB l (takesF l b)=true:=by
 refine tookB_iff.2 ⟨by unfold takesF;rw [List.length_map,List.length_range],fun k hk=>?_⟩
 unfold takesF
 rw [range_getD _ hk]
 have h1:=of_decide_eq_true (h _ (getD_mem2 (d:=(0,0)) hk))
 unfold takeA
 split
 ·have:=Int.emod_nonneg (b.getD k 0) (b:=(l.getD k (0,0)).2 - (l.getD k (0,0)).1+1) (by omega)
  have:=Int.emod_lt_of_pos (b.getD k 0) (b:=(l.getD k (0,0)).2 - (l.getD k (0,0)).1+1) (by omega)
  omega
 ·omega
theorem good_has {w:DWorld} {p:DPlan} (h:checkP w p=0):asksF w p.1 p.2.1=true∧chainF w p.1 p.2.1=((winsF w p.1 p.2.1,p.2.2.1,ridesR w p.2.1 p.2.1.length),0)∧rightC (winsF w p.1 p.2.1,p.2.2.1,ridesR w p.2.1 p.2.1.length)=true ∧
  fitsG (winsF w p.1 p.2.1,p.2.2.1,ridesR w p.2.1 p.2.1.length) p.2.2.2=true∧keeps20 (winsF w p.1 p.2.1,p.2.2.1,ridesR w p.2.1 p.2.1.length) p.2.2.2=true:=by
 obtain ⟨_,h2,h3,h4,_⟩:=check_ok h
 obtain ⟨h5,h6⟩:=chain_ok h2
 have h7:=okC_fits h3
 have e:p.2.2.1=legsF w p.1 p.2.1:=by
  unfold okC at h3
  rw [h6] at h3
  rw [Bool.and_eq_true] at h3
  exact of_decide_eq_true h3.1
 rw [h6] at h4 h7
 rw [e]
 exact ⟨h5,h6,h7.1,h7.2,h4⟩
theorem good_legs {w:DWorld} {p:DPlan} (h:checkP w p=0):p.2.2.1.length=p.2.1.length∧∀ x ∈ p.2.2.1,legB x=true:=by
 obtain ⟨_,_,h3,_,_⟩:=good_has h
 have h4:=rightC_iff.1 h3
 refine ⟨?_,fun x hx=>decide_eq_true (h4.2.2.1 x hx)⟩
 have h5:=h4.1.2.2.1
 dsimp only [winsF] at h5
 rw [List.length_map,List.length_range] at h5
 omega
theorem good_run {w:DWorld} {p:DPlan} (h:checkP w p=0) {t:List Int} (ht:tookB p.2.2.1 t=true):rnF (chainF w p.1 p.2.1).1 p.2.2.2 t=(playF p.2.2.2 t,0):=by
 obtain ⟨_,h2,_,h4,_⟩:=good_has h
 rw [h2]
 unfold rnF
 rw [if_pos ⟨h4,ht⟩]
theorem good_worst {w:DWorld} {p:DPlan} (h:checkP w p=0):worstF (chainF w p.1 p.2.1).1 p.2.2.2=(playF p.2.2.2 (highsF p.2.2.1),0):=by
 obtain ⟨_,h2,_,h4,_⟩:=good_has h
 rw [h2]
 unfold worstF
 rw [if_pos h4]
theorem highs_took {l:List DLeg} (h:∀ x ∈ l,legB x=true):tookB l (highsF l)=true:=by
 refine tookB_iff.2 ⟨highs_len _,fun k hk=>?_⟩
 have h1:=of_decide_eq_true (h _ (getD_mem2 (d:=(0,0)) hk))
 rw [highs_getD]
 omega
def stopB (w:DWorld) (p:DPlan) (t:List Int) (k:Nat):Prop :=
 ((p.2.1.getD k dStop).2=true→(reqAt w (p.2.1.getD k dStop).1).2.2.2.1≤tmF p.2.2.2 t (k+1)∧tmF p.2.2.2 t (k+1)≤(reqAt w (p.2.1.getD k dStop).1).2.2.2.2.1) ∧
 ((p.2.1.getD k dStop).2=false→tmF p.2.2.2 t (k+1)≤(reqAt w (p.2.1.getD k dStop).1).2.2.2.2.2.1) ∧
 ∀ m,m < k→(p.2.1.getD m dStop).1=(p.2.1.getD k dStop).1→tmF p.2.2.2 t (k+1) - tmF p.2.2.2 t (m+1)≤(reqAt w (p.2.1.getD k dStop).1).2.2.2.2.2.2.1
theorem keeps_law {w:DWorld} {p:DPlan} (h:checkP w p=0) {t:List Int} (ht:tookB p.2.2.1 t=true):t.length=p.2.1.length∧(carAt w p.1).2.2.1≤tmF p.2.2.2 t 0∧tmF p.2.2.2 t p.2.1.length≤(carAt w p.1).2.2.2.1∧∀ k,k < p.2.1.length→stopB w p t k:=by
 obtain ⟨h1,h2,h3,h4,h5⟩:=good_has h
 have hl:=(good_legs h).1
 have ht1:=(tookB_iff.1 ht).1
 have hk:=keeps_all h4 h5 ht
 have hR:=(asks_iff.1 h1).2.2
 have hwl:(winsF w p.1 p.2.1).length=p.2.1.length+1:=by unfold winsF;rw [List.length_map,List.length_range]
 have hw:∀ k,k≤p.2.1.length→(winF w p.1 p.2.1 k).1≤tmF p.2.2.2 t k∧tmF p.2.2.2 t k≤(winF w p.1 p.2.1 k).2:=fun k hk'=>by
  have:=keep_win hk (k:=k) (by dsimp only;omega)
  dsimp only at this
  rwa [wins_at w p.1 p.2.1 hk'] at this
 refine ⟨by omega,(hw 0 (Nat.zero_le _)).1,?_,fun k hk'=>⟨fun e=>?_,fun e=>?_,fun m hm e=>?_⟩⟩
 ·have:=hw p.2.1.length (Nat.le_refl _)
  generalize p.2.1.length=n at this ⊢
  cases n with
  | zero=>exact this.2
  | succ n =>
   have h6:=this.2
   rw [winF_s] at h6
   have m1:=minI_le (reqAt w (p.2.1.getD n dStop).1).2.2.2.2.1 (carAt w p.1).2.2.2.1
   have m2:=minI_le (reqAt w (p.2.1.getD n dStop).1).2.2.2.2.2.1 (carAt w p.1).2.2.2.1
   split at h6
   ·dsimp only at h6;omega
   split at h6
   ·dsimp only at h6;omega
   ·dsimp only at h6;omega
 ·have h6:=hw (k+1) (by omega)
  rw [winF_s,if_pos e] at h6
  have m1:=minI_le (reqAt w (p.2.1.getD k dStop).1).2.2.2.2.1 (carAt w p.1).2.2.2.1
  dsimp only at h6
  omega
 ·have h6:=(hw (k+1) (by omega)).2
  rw [winF_s,if_neg (by rw [e];decide)] at h6
  have m2:=minI_le (reqAt w (p.2.1.getD k dStop).1).2.2.2.2.2.1 (carAt w p.1).2.2.2.1
  split at h6
  ·dsimp only at h6;omega
  ·dsimp only at h6;omega
 ·have hm':m < p.2.1.length:=by omega
  have hmp:(p.2.1.getD m dStop).2=true:=by
   rw [← Bool.not_eq_false]
   intro q
   have hkp:(p.2.1.getD k dStop).2=true:=by
    rw [← Bool.not_eq_false]
    intro q2
    have:=hR.inj hm' hk' (Prod.ext e (by rw [q,q2]))
    omega
   have d1:=hR.drop_after hk' hkp
   have d2:=hR.at_eq hm'
   rw [show p.2.1.getD m dStop=((p.2.1.getD k dStop).1,false) from Prod.ext e q] at d2
   omega
  have hkp:(p.2.1.getD k dStop).2=false:=by
   rw [← Bool.not_eq_true]
   intro q2
   have:=hR.inj hm' hk' (Prod.ext e (by rw [hmp,q2]))
   omega
  have hr:rideR w p.2.1 m ∈ ridesR w p.2.1 p.2.1.length:=List.mem_map.2 ⟨m,List.mem_filter.2 ⟨List.mem_range.2 hm',hmp⟩,rfl⟩
  have h6:=keep_ride hk hr
  have d2:=hR.at_eq hk'
  rw [show p.2.1.getD k dStop=((p.2.1.getD m dStop).1,false) from Prod.ext e.symm hkp] at d2
  unfold rideR at h6
  dsimp only at h6
  rw [d2,e,show ((k:Int)+1).toNat=k+1 by omega,show ((m:Int)+1).toNat=m+1 by omega] at h6
  exact h6
theorem guard_ok {c:DChain} (h:(guardF c).2=0):rightC c=true∧(guardF c).1=gsF c c.1.length∧∀ r ∈ c.2.2,lateR c r=false:=by
 unfold guardF at h ⊢
 by_cases h1:rightC c=false
 ·rw [if_pos h1] at h;cases h
 by_cases h2:c.2.2.any (lateR c)=true
 ·rw [if_neg h1,if_pos h2] at h;cases h
 by_cases h3:inTime c (playF (gsF c c.1.length) (highsF c.2.1))=false
 ·rw [if_neg h1,if_neg h2,if_pos h3] at h;cases h
 rw [if_neg h1,if_neg h2,if_neg h3]
 exact ⟨by rwa [Bool.not_eq_false] at h1,rfl,late_none h2⟩
theorem guard_keeps20 {c:DChain} (h:(guardF c).2=0):keeps20 c (guardF c).1=true:=by
 have hf:=guard_fits h
 have hr:=(fitsG_iff.1 hf).1
 have hn:=(rightC_iff.1 hr).1
 have hc:∀ k,k≤c.2.1.length→cutF c (guardF c).1 (lowsF c.2.1) (highsF c.2.1) k=true:=fun k hk=>by
  unfold cutF
  rw [cut_run hf hk]
  exact guard_keeps h (cut_took hr hk)
 refine keeps20_iff.2 ⟨⟨hc 0 (Nat.zero_le _),hc _ (Nat.le_refl _)⟩,fun r hr'=>?_⟩
 have h4:=(rightC_iff.1 hr).2.2.2 r hr'
 exact hc _ (by omega)
theorem made_ok {w:DWorld} {c:Int} {ss:List DStop} (h:(makeF w c ss).2=0):(chainF w c ss).2=0∧checkP w (makeF w c ss).1=0∧(makeF w c ss).1.1=c∧(makeF w c ss).1.2.1=ss∧(makeF w c ss).1.2.2.1=(chainF w c ss).1.2.1:=by
 rw [makeF_eq] at h ⊢
 by_cases h1:(begF w c ss).2≠0
 ·rw [if_pos h1] at h;exact absurd h h1
 by_cases h2:(guardF (begF w c ss).1).2≠0
 ·rw [if_neg h1,if_pos h2] at h;cases h
 by_cases h3:restsF w (begF w c ss).1 (guardF (begF w c ss).1).1=false
 ·rw [if_neg h1,if_neg h2,if_pos h3] at h;cases h
 rw [if_neg h1,if_neg h2,if_neg h3]
 have hb:=beg_ok (Decidable.not_not.1 h1)
 have hg:=Decidable.not_not.1 h2
 obtain ⟨g1,g2,g3⟩:=guard_ok hg
 refine ⟨by rw [← hb];exact Decidable.not_not.1 h1,?_,rfl,rfl,by rw [← hb]⟩
 rw [checkP_eq]
 dsimp only
 have ho:okC w (c,ss,(begF w c ss).1.2.1,(guardF (begF w c ss).1).1) (begF w c ss).1=true:=by
  unfold okC
  dsimp only
  rw [decide_eq_true rfl,g2,gsF_len,decide_eq_true rfl,g1,allIn_within.2 (gs_low g1 g3 _ (Nat.le_refl _))]
  rfl
 rw [if_neg h1,if_neg (by rw [ho];decide),if_neg (by rw [guard_keeps20 hg];decide),if_neg h3]
theorem made_no {w:DWorld} {c:Int} {ss:List DStop} (h:(makeF w c ss).2≠0) (g:List Int):(makeF w c ss).1=noPlan∧((makeF w c ss).2=20→checkP w (c,ss,(chainF w c ss).1.2.1,g)≠0)∧((makeF w c ss).2=20∨(makeF w c ss).2=29∨checkP w (c,ss,(chainF w c ss).1.2.1,g)=(makeF w c ss).2):=by
 rw [makeF_eq] at h ⊢
 by_cases h1:(begF w c ss).2≠0
 ·rw [if_pos h1]
  have e:checkP w (c,ss,(chainF w c ss).1.2.1,g)=(begF w c ss).2:=by
   rw [checkP_eq];dsimp only;rw [if_pos h1]
  exact ⟨rfl,fun _=>by rw [e];exact h1,.inr (.inr e)⟩
 by_cases h2:(guardF (begF w c ss).1).2≠0
 ·rw [if_neg h1,if_pos h2]
  refine ⟨rfl,fun _ q=>?_,.inl rfl⟩
  obtain ⟨q1,_,q3,q4,_⟩:=check_ok q
  dsimp only at q1 q3 q4
  rw [← q1] at q3 q4
  refine h2 ?_
  rw [guard_least (okC_fits q3).2 q4]
 by_cases h3:restsF w (begF w c ss).1 (guardF (begF w c ss).1).1=false
 ·rw [if_neg h1,if_neg h2,if_pos h3]
  exact ⟨rfl,fun q=>absurd q (by decide),.inr (.inl rfl)⟩
 rw [if_neg h1,if_neg h2,if_neg h3] at h
 exact absurd rfl h
end T
end Go.Proofs.YtecdcopihghnaaaGreat
end
section
namespace Go.Proofs.YtecdcopihghnaaaGreat
set_option linter.unusedVariables false
set_option linter.unusedSimpArgs false
open Go.RowKit Go.IntWalk
namespace T
def entHgL:Ent:=⟨21,.cons (.sl (.st (.cons (.int .i64) (.int .i64)))) .nil,(.sl (.int .i64)),false,none,fun x=>List.length (α:=DLeg) x.1≤1000,fun x=>highsF x.1⟩
def csHgL:List Ent:=[] theorem hcsHgL (f:FuncId):findEnt csHgL f=findEnt [] f:=rfl
theorem conHgL:Con Tryz.prog entHgL:=by
 refine con_is (C:=csHgL) x21 (by kernel_rfl) (by simp [csHgL]) fun x hx hf=>?_
 obtain ⟨(L:List DLeg),_⟩:=x
 have hL:L.length≤1000:=hx
 dsimp only [entHgL,x21];simp only [↓hcsHgL,go_sem,Nat.reduceAdd,Nat.reduceSub,Nat.reduceMul,Nat.reduceLT,Nat.reduceLeDiff,Nat.reduceEqDiff,Nat.reduceBEq,Nat.reduceBNe,List.reduceReplicate,reduceIte,reduceCtorEq,↓reduceIte];try simp only [td,reduceCtorEq]
 refine XW_for 1000 x21_0d [0] Nat (fun j=>[(4,.val (.int .i64) (j:Int)),(3,.own 1)]) (fun j=>[(1,.row 3 (.int .i64) ((highsF L).take j))]) (fun j=>j≤L.length) (fun j=>L.length - j) 0 ?_ ?_ ?_
 ·dsimp only [x21_0d]
  simp only [go_sem,Nat.reduceAdd,Nat.reduceSub,Nat.reduceMul,Nat.reduceLT,Nat.reduceLeDiff,Nat.reduceEqDiff,Nat.reduceBEq,Nat.reduceBNe,List.reduceReplicate,reduceIte,reduceCtorEq,↓reduceIte]
  try trivial
 ·exact Nat.zero_le _
 intro j hj
 have w2:j < L.length→IntKind.i64.wrap ((j:Int)+1)=((j+1:Nat):Int):=fun h=>i64_in _ (by omega)
 have hs:j < L.length→(highsF L).take j ++ [(L.getD j (0,0)).2]=(highsF L).take (j+1):=fun h=>by
  rw [List.take_succ_eq_append_getElem (by rw [highs_len];exact h),← highs_getD]
  simp [List.getD,highs_len,h]
 have hlt:((highsF L).take j).length=j:=by rw [List.length_take,highs_len];omega
 dsimp only [x21_0,x21_0d]
 simp only [↓hcsHgL,hlt,go_sem,Nat.reduceAdd,Nat.reduceSub,Nat.reduceMul,Nat.reduceLT,Nat.reduceLeDiff,Nat.reduceEqDiff,Nat.reduceBEq,Nat.reduceBNe,List.reduceReplicate,reduceIte,reduceCtorEq,↓reduceIte]
 try simp only [hlt,td,reduceCtorEq]
 refine ⟨fun hj'=>⟨⟨hj',by omega⟩,j+1,by omega,hj',w2 hj',hs hj'⟩,fun hj'=>?_⟩
 exact List.take_of_length_le (by rw [highs_len];omega)
def legsOk (l:List DLeg):Prop:=∀ y ∈ l,legB y=true
def entTak:Ent:=⟨15,.cons (.sl (.st (.cons (.int .i64) (.int .i64)))) (.cons (.sl (.int .u16)) .nil),(.sl (.int .i64)),false,none,fun x=>legsOk x.1∧List.length (α:=DLeg) x.1≤1000,fun x=>takesF x.1 x.2.1⟩
def csTak:List Ent:=[] theorem hcsTak (f:FuncId):findEnt csTak f=findEnt [] f:=rfl
theorem conTak:Con Tryz.prog entTak:=by
 refine con_is (C:=csTak) x15 (by kernel_rfl) (by simp [csTak]) fun x hx hf=>?_
 obtain ⟨(L:List DLeg),(b:List Int),_⟩:=x
 obtain ⟨hg,hL⟩:=hx
 have hL:L.length≤1000:=hL
 have hb:Within 0 65535 b:=fun y hy=>hf.2.1.2 y hy
 dsimp only [entTak,x15];simp only [↓hcsTak,go_sem,Nat.reduceAdd,Nat.reduceSub,Nat.reduceMul,Nat.reduceLT,Nat.reduceLeDiff,Nat.reduceEqDiff,Nat.reduceBEq,Nat.reduceBNe,List.reduceReplicate,reduceIte,reduceCtorEq,↓reduceIte];try simp only [td,reduceCtorEq]
 refine XW_for 1000 x15_0d [0] Nat (fun j=>[(6,.val (.int .i64) (j:Int)),(5,.own 1)]) (fun j=>[(1,.row 3 (.int .i64) ((takesF L b).take j))]) (fun j=>j≤L.length) (fun j=>L.length - j) 0 ?_ ?_ ?_
 ·dsimp only [x15_0d]
  simp only [go_sem,Nat.reduceAdd,Nat.reduceSub,Nat.reduceMul,Nat.reduceLT,Nat.reduceLeDiff,Nat.reduceEqDiff,Nat.reduceBEq,Nat.reduceBNe,List.reduceReplicate,reduceIte,reduceCtorEq,↓reduceIte]
  try trivial
 ·exact Nat.zero_le _
 intro j hj
 have hln:(takesF L b).length=L.length:=by unfold takesF;rw [List.length_map,List.length_range]
 have hlt:((takesF L b).take j).length=j:=by rw [List.length_take,hln];omega
 dsimp only [x15_0,x15_0d]
 simp only [↓hcsTak,hlt,go_sem,Nat.reduceAdd,Nat.reduceSub,Nat.reduceMul,Nat.reduceLT,Nat.reduceLeDiff,Nat.reduceEqDiff,Nat.reduceBEq,Nat.reduceBNe,List.reduceReplicate,reduceIte,reduceCtorEq,↓reduceIte]
 try simp only [hlt,td,reduceCtorEq]
 have w2:j < L.length→IntKind.i64.wrap ((j:Int)+1)=((j+1:Nat):Int):=fun h=>i64_in _ (by omega)
 have hs:j < L.length→(takesF L b).take j ++ [takeA L b j]=(takesF L b).take (j+1):=fun h=>by
  rw [List.take_succ_eq_append_getElem (by rw [hln];exact h)]
  simp [takesF]
 have hl:j < L.length→0≤(L.getD j (0,0)).1∧(L.getD j (0,0)).1≤(L.getD j (0,0)).2∧(L.getD j (0,0)).2≤1048576:=fun h=>of_decide_eq_true (hg _ (getD_mem2 h))
 have hbj:=hb.getD (Int.le_refl _) (by decide) j
 have hA:takeA L b j=(L.getD j (0,0)).1+(if j < b.length then (b.getD j 0) % ((L.getD j (0,0)).2 - (L.getD j (0,0)).1+1) else 0):=rfl
 refine ⟨fun hj'=>?_,fun hj'=>List.take_of_length_le (by rw [hln];omega)⟩
 have hl':=hl hj'
 generalize (L.getD j (0,0)).1=lo at *
 generalize (L.getD j (0,0)).2=hi at *
 generalize b.getD j 0=u at *
 have e1:IntKind.i64.wrap (hi - lo)=hi - lo:=i64_in _ (by omega)
 have e2:IntKind.i64.wrap (hi - lo+1)=hi - lo+1:=i64_in _ (by omega)
 have e3:IntKind.i64.wrap u=u:=i64_in _ (by omega)
 have e4:u.tmod (hi - lo+1)=u % (hi - lo+1):=Int.tmod_eq_emod_of_nonneg (by omega)
 have m1:=Int.emod_nonneg u (b:=hi - lo+1) (by omega)
 have m2:=Int.emod_lt_of_pos u (b:=hi - lo+1) (by omega)
 refine ⟨fun hjb=>?_,fun hjb=>?_⟩
 ·rw [if_pos hjb] at hA
  rw [e1,e2,e3,e4,show IntKind.i64.wrap (lo+u % (hi - lo+1))=lo+u % (hi - lo+1) from i64_in _ (by omega),← hA]
  exact ⟨⟨hjb,hj',hj',by omega⟩,⟨hj',by omega⟩,j+1,by omega,hj',w2 hj',hs hj'⟩
 ·rw [if_neg hjb,Int.add_zero] at hA
  rw [Int.add_zero,show IntKind.i64.wrap lo=lo from i64_in _ (by omega),← hA]
  exact ⟨⟨hj',by omega⟩,j+1,by omega,hj',w2 hj',hs hj'⟩
end T
end Go.Proofs.YtecdcopihghnaaaGreat
end
section
namespace Go.Proofs.YtecdcopihghnaaaGreat
set_option linter.unusedVariables false
set_option linter.unusedSimpArgs false
open Go.RowKit Go.IntWalk
namespace T
def entSmP:Ent:=⟨29,.cons (.st (.cons (.int .i64) (.cons (.sl (.st (.cons (.int .i64) .bool))) (.cons (.sl (.st (.cons (.int .i64) (.int .i64)))) (.sl (.int .i64)))))) (.cons (.st (.cons (.int .i64) (.cons (.sl (.st (.cons (.int .i64) .bool))) (.cons (.sl (.st (.cons (.int .i64) (.int .i64)))) (.sl (.int .i64)))))) .nil),.bool,false,none,fun _=>True,fun x=>decide ((x.1:DPlan)=x.2.1)⟩
def csSmP:List Ent:=[entSmLg,entSmSt,entInt16] theorem hcsSmP (f:FuncId):findEnt csSmP f=findEnt [entSmLg,entSmSt,entInt16] f:=rfl
theorem conSmP:Con Tryz.prog entSmP:=by
 refine con_is (C:=csSmP) x29 (by kernel_rfl) (by simp [csSmP,conSmLg,conSmSt,conInt16]) fun x hx hf=>?_
 obtain ⟨⟨(c:Int),(ss:List DStop),(Lg:List DLeg),(Lv:List Int)⟩,⟨(c':Int),(ss':List DStop),(Lg':List DLeg),(Lv':List Int)⟩,_⟩:=x
 dsimp only [entSmP,x29];simp only [↓hcsSmP,entSmLg,entSmSt,entInt16,undef,go_sem,Nat.reduceAdd,Nat.reduceSub,Nat.reduceMul,Nat.reduceLT,Nat.reduceLeDiff,Nat.reduceEqDiff,Nat.reduceBEq,Nat.reduceBNe,List.reduceReplicate,reduceIte,reduceCtorEq,↓reduceIte]
 try simp only [td,reduceCtorEq]
 rw [Bool.eq_iff_iff]
 simp only [Bool.and_eq_true,beq_iff_eq,decide_eq_true_eq,Prod.mk.injEq,and_assoc]
def entFwP:Ent:=⟨10,.cons (.st (.cons (.int .i64) (.cons (.sl (.st (.cons (.int .i64) .bool))) (.cons (.sl (.st (.cons (.int .i64) (.int .i64)))) (.sl (.int .i64)))))) .nil,.bool,false,none,fun _=>True,fun x=>decide ((x.1:DPlan).2.1.length≤10∧(x.1:DPlan).2.2.1.length≤12∧(x.1:DPlan).2.2.2.length≤12)⟩
def csFwP:List Ent:=[] theorem hcsFwP (f:FuncId):findEnt csFwP f=findEnt [] f:=rfl
theorem conFwP:Con Tryz.prog entFwP:=by
 refine con_is (C:=csFwP) x10 (by kernel_rfl) (by simp [csFwP]) fun x hx hf=>?_
 obtain ⟨⟨(c:Int),(ss:List DStop),(Lg:List DLeg),(Lv:List Int)⟩,_⟩:=x
 dsimp only [entFwP,x10];simp only [↓hcsFwP,undef,go_sem,Nat.reduceAdd,Nat.reduceSub,Nat.reduceMul,Nat.reduceLT,Nat.reduceLeDiff,Nat.reduceEqDiff,Nat.reduceBEq,Nat.reduceBNe,List.reduceReplicate,reduceIte,reduceCtorEq,↓reduceIte]
 try simp only [td,reduceCtorEq]
 rw [Bool.eq_iff_iff]
 simp only [Bool.and_eq_true,decide_eq_true_eq]
 omega
end T
end Go.Proofs.YtecdcopihghnaaaGreat
end
section
namespace Go.Proofs.YtecdcopihghnaaaGreat
set_option linter.unusedVariables false
set_option linter.unusedSimpArgs false
open Go.RowKit Go.IntWalk
namespace T
def few20 (w:DWorld) (ss:List DStop):Bool :=
 ((List.range w.2.1.length).all fun k=>decide (10 < k∨((w.2.1.getD k (0,0,[],[])).2.2.1.length≤25∧(w.2.1.getD k (0,0,[],[])).2.2.2.length≤25))) &&
 decide ((w.1≤5∨w.1 > 2000)∧w.2.1.length≤10∧w.2.2.1.length≤4∧w.2.2.2.1.length≤8∧w.2.2.2.2.1.length≤5∧ss.length≤10)
def entFew20:Ent:=⟨9,.cons (.st (.cons (.int .i64) (.cons (.sl (.st (.cons (.int .i64) (.cons (.int .i64) (.cons (.sl (.int .i64)) (.sl (.int .i64))))))) (.cons (.sl (.st (.cons (.int .i64) (.cons (.int .i64) (.cons (.int .i64) (.cons (.int .i64) (.cons (.int .i64) (.cons (.int .i64) (.cons (.int .i64) (.cons (.int .i64) (.int .i64))))))))))) (.cons (.sl (.st (.cons (.int .i64) (.cons (.int .i64) (.cons (.int .i64) (.cons (.int .i64) (.cons (.int .i64) (.cons (.int .i64) (.cons (.int .i64) (.cons (.int .i64) (.cons (.int .i64) (.int .i64)))))))))))) (.cons (.sl (.st (.cons (.int .i64) (.cons (.int .i64) .bool)))) (.st (.cons (.int .i64) (.cons (.int .i64) (.int .i64)))))))))) (.cons (.sl (.st (.cons (.int .i64) .bool))) .nil),.bool,false,none,fun _=>True,fun x=>few20 x.1 x.2.1⟩
def csFew20:List Ent:=[] theorem hcsFew20 (f:FuncId):findEnt csFew20 f=findEnt [] f:=rfl
theorem conFew20:Con Tryz.prog entFew20:=by
 refine con_is (C:=csFew20) x9 (by kernel_rfl) (by simp [csFew20]) fun x hx hf=>?_
 obtain ⟨⟨(N:Int),(A:List DArc),(C:List DCar),(Q:List DReq),(P:List DPair),(S1:Int),(S2:Int),(S3:Int)⟩,(ss:List DStop),_⟩:=x
 dsimp only [entFew20,x9];simp only [↓hcsFew20,undef,go_sem,Nat.reduceAdd,Nat.reduceSub,Nat.reduceMul,Nat.reduceLT,Nat.reduceLeDiff,Nat.reduceEqDiff,Nat.reduceBEq,Nat.reduceBNe,List.reduceReplicate,reduceIte,reduceCtorEq,↓reduceIte]
 try simp only [td,reduceCtorEq]
 have hN1:N > 2000 ↔ 2000 < N:=Iff.rfl
 refine XW_for 1000 x9_0d [0] Nat (fun j=>[(5,.val (.int .i64) (j:Int))]) (fun _=>[]) (fun j=>(j≤A.length∧j≤11)∧∀ i,i < j→(A.getD i (0,0,[],[])).2.2.1.length≤25∧(A.getD i (0,0,[],[])).2.2.2.length≤25) (fun j=>A.length - j) 0 ?_ ?_ ?_
 ·dsimp only [x9_0d];simp only [go_sem,Nat.reduceAdd,Nat.reduceSub,Nat.reduceMul,Nat.reduceLT,Nat.reduceLeDiff,Nat.reduceEqDiff,Nat.reduceBEq,Nat.reduceBNe,List.reduceReplicate,reduceIte,reduceCtorEq,↓reduceIte];try trivial
 ·exact ⟨⟨Nat.zero_le _,by omega⟩,fun i hi=>by omega⟩
 rintro j ⟨⟨hj,hj11⟩,hn⟩
 by_cases hja:j < A.length∧j≤10
 ·obtain ⟨hja,hjb⟩:=hja
  have w2:IntKind.i64.wrap ((j:Int)+1)=((j+1:Nat):Int):=i64_in _ (by omega)
  have hjbi:(j:Int)≤10:=by omega
  have hno:¬ ((A.getD j (0,0,[],[])).2.2.1.length≤25∧(A.getD j (0,0,[],[])).2.2.2.length≤25)→few20 (N,A,C,Q,P,S1,S2,S3) ss=false:=fun h=>by
   unfold few20
   rw [Bool.and_eq_false_iff]
   refine .inl (List.all_eq_false.2 ⟨j,List.mem_range.2 hja,?_⟩)
   rw [decide_eq_true_eq]
   rintro (q | q)
   ·omega
   ·exact h q
  dsimp only [x9_0,x9_0d];simp only [↓hcsFew20,undef,hja,hjb,hjbi,w2,go_sem,Nat.reduceAdd,Nat.reduceSub,Nat.reduceMul,Nat.reduceLT,Nat.reduceLeDiff,Nat.reduceEqDiff,Nat.reduceBEq,Nat.reduceBNe,List.reduceReplicate,reduceIte,reduceCtorEq,↓reduceIte]
  try simp only [hja,hjb,hjbi,w2,td,reduceCtorEq]
  refine ⟨fun h=>(hno fun q=>?_).symm,fun h=>⟨j+1,by omega,⟨⟨by omega,by omega⟩,fun i hi=>?_⟩,rfl⟩⟩
  ·rcases h with h | h
   ·exact absurd (Int.ofNat_le.2 q.1) (Int.not_le.2 h)
   ·exact absurd (Int.ofNat_le.2 q.2) (Int.not_le.2 h)
  ·rcases Nat.lt_or_ge i j with q | q
   ·exact hn i q
   ·rw [show i=j by omega]
    exact ⟨Int.ofNat_le.1 h.1,Int.ofNat_le.1 h.2⟩
 ·have hf1:few20 (N,A,C,Q,P,S1,S2,S3) ss=decide ((N≤5∨N > 2000)∧A.length≤10∧C.length≤4∧Q.length≤8∧P.length≤5∧ss.length≤10):=by
   unfold few20
   dsimp only
   rw [List.all_eq_true.2 fun k hk=>?_,Bool.true_and]
   rw [decide_eq_true_eq]
   have:=List.mem_range.1 hk
   by_cases q:k < j
   ·exact .inr (hn k q)
   ·left;omega
  have hcond:¬ ((j:Int) < (A.length:Int)∧(j:Int)≤10):=by omega
  dsimp only [x9_0,x9_0d];simp only [↓hcsFew20,undef,hf1,go_sem,Nat.reduceAdd,Nat.reduceSub,Nat.reduceMul,Nat.reduceLT,Nat.reduceLeDiff,Nat.reduceEqDiff,Nat.reduceBEq,Nat.reduceBNe,List.reduceReplicate,reduceIte,reduceCtorEq,↓reduceIte]
  try simp only [hf1,td,reduceCtorEq]
  refine ⟨fun h=>absurd ⟨h.1,by omega⟩ hja,fun _=>?_⟩
  rw [Bool.eq_iff_iff]
  simp only [Bool.and_eq_true,Bool.or_eq_true,decide_eq_true_eq]
  omega
def arcF20 (f t lo hi:Int):DArc:=(f,t,List.replicate 24 lo,List.replicate 24 hi)
theorem rep_snoc20 (k:Nat) (x:Int):List.replicate k x ++ [x]=List.replicate (k+1) x:=by rw [List.replicate_succ']
def entArc20:Ent:=⟨82,.cons (.int .i64) (.cons (.int .i64) (.cons (.int .i64) (.cons (.int .i64) .nil))),(.st (.cons (.int .i64) (.cons (.int .i64) (.cons (.sl (.int .i64)) (.sl (.int .i64)))))),false,none,fun _=>True,fun x=>arcF20 x.1 x.2.1 x.2.2.1 x.2.2.2.1⟩
def csArc20:List Ent:=[] theorem hcsArc20 (f:FuncId):findEnt csArc20 f=findEnt [] f:=rfl
theorem conArc20:Con Tryz.prog entArc20:=by
 refine con_is (C:=csArc20) x82 (by kernel_rfl) (by simp [csArc20]) fun x _ hf=>?_
 obtain ⟨(f:Int),(t:Int),(lo:Int),(hi:Int),_⟩:=x
 dsimp only [entArc20,x82];simp only [↓hcsArc20,go_sem,Nat.reduceAdd,Nat.reduceSub,Nat.reduceMul,Nat.reduceLT,Nat.reduceLeDiff,Nat.reduceEqDiff,Nat.reduceBEq,Nat.reduceBNe,List.reduceReplicate,reduceIte,reduceCtorEq,↓reduceIte]
 refine XW_first 1000 x82_0d [0,4] Nat (fun k=>[(10,.val (.int .i64) (k:Int))]) (fun k=>[(4,.box 91 [.val (.int .i64) f,.val (.int .i64) t,.own 100,.own 101]),(100,.row 3 (.int .i64) (List.replicate k lo)),(101,.row 3 (.int .i64) (List.replicate k hi))]) (fun k=>1≤k∧k≤24) (fun k=>24 - k) 24 ?_ ?_
 ·dsimp only [x82_0,x82_0d];simp only [↓hcsArc20,go_sem,Nat.reduceAdd,Nat.reduceSub,Nat.reduceMul,Nat.reduceLT,Nat.reduceLeDiff,Nat.reduceEqDiff,Nat.reduceBEq,Nat.reduceBNe,List.reduceReplicate,reduceIte,reduceCtorEq,↓reduceIte]
  try simp only [td,reduceCtorEq]
  exact ⟨fun _=>⟨1,by omega,⟨by omega,by omega⟩,i64_in _ (by omega),rfl,rfl⟩,fun h=>by omega⟩
 ·intro k hk
  dsimp only [x82_0,x82_0d];simp only [↓hcsArc20,go_sem,Nat.reduceAdd,Nat.reduceSub,Nat.reduceMul,Nat.reduceLT,Nat.reduceLeDiff,Nat.reduceEqDiff,Nat.reduceBEq,Nat.reduceBNe,List.reduceReplicate,reduceIte,reduceCtorEq,↓reduceIte]
  try simp only [td,reduceCtorEq]
  refine ⟨fun h=>⟨?_,?_,k+1,by omega,⟨by omega,by omega⟩,i64_in _ (by omega),rep_snoc20 _ _,rep_snoc20 _ _⟩,fun h=>?_⟩
  ·rw [List.length_replicate];omega
  ·rw [List.length_replicate];omega
  ·obtain rfl:k=24:=by omega
   rfl
def entOf20:Ent:=⟨11,.cons (.st (.cons (.int .i64) (.cons (.sl (.st (.cons (.int .i64) (.cons (.int .i64) (.cons (.sl (.int .i64)) (.sl (.int .i64))))))) (.cons (.sl (.st (.cons (.int .i64) (.cons (.int .i64) (.cons (.int .i64) (.cons (.int .i64) (.cons (.int .i64) (.cons (.int .i64) (.cons (.int .i64) (.cons (.int .i64) (.int .i64))))))))))) (.cons (.sl (.st (.cons (.int .i64) (.cons (.int .i64) (.cons (.int .i64) (.cons (.int .i64) (.cons (.int .i64) (.cons (.int .i64) (.cons (.int .i64) (.cons (.int .i64) (.cons (.int .i64) (.int .i64)))))))))))) (.cons (.sl (.st (.cons (.int .i64) (.cons (.int .i64) .bool)))) (.st (.cons (.int .i64) (.cons (.int .i64) (.int .i64)))))))))) .nil,(.st (.cons (.int .i64) (.cons (.sl (.st (.cons (.int .i64) (.cons (.int .i64) (.cons (.sl (.int .i64)) (.sl (.int .i64))))))) (.cons (.sl (.st (.cons (.int .i64) (.cons (.int .i64) (.cons (.int .i64) (.cons (.int .i64) (.cons (.int .i64) (.cons (.int .i64) (.cons (.int .i64) (.cons (.int .i64) (.int .i64))))))))))) (.cons (.sl (.st (.cons (.int .i64) (.cons (.int .i64) (.cons (.int .i64) (.cons (.int .i64) (.cons (.int .i64) (.cons (.int .i64) (.cons (.int .i64) (.cons (.int .i64) (.cons (.int .i64) (.int .i64)))))))))))) (.cons (.sl (.st (.cons (.int .i64) (.cons (.int .i64) .bool)))) (.st (.cons (.int .i64) (.cons (.int .i64) (.int .i64)))))))))),false,none,fun _=>True,fun x=>x.1⟩
def csOf20:List Ent:=[] theorem hcsOf20 (f:FuncId):findEnt csOf20 f=findEnt [] f:=rfl
theorem conOf20:Con Tryz.prog entOf20:=by
 refine con_is (C:=csOf20) x11 (by kernel_rfl) (by simp [csOf20]) fun x hx hf=>?_
 obtain ⟨⟨(N:Int),(A:List DArc),(C:List DCar),(Q:List DReq),(P:List DPair),(S1:Int),(S2:Int),(S3:Int)⟩,_⟩:=x
 dsimp only [entOf20,x11];simp only [↓hcsOf20,undef,go_sem,Nat.reduceAdd,Nat.reduceSub,Nat.reduceMul,Nat.reduceLT,Nat.reduceLeDiff,Nat.reduceEqDiff,Nat.reduceBEq,Nat.reduceBNe,List.reduceReplicate,reduceIte,reduceCtorEq,↓reduceIte]
 try simp only [td,reduceCtorEq]
 all_goals trace_state
end T
end Go.Proofs.YtecdcopihghnaaaGreat
end
section
namespace Go.Proofs.YtecdcopihghnaaaGreat
set_option linter.unusedVariables false
set_option linter.unusedSimpArgs false
open Go.RowKit Go.IntWalk
namespace T
def some20 (ride seats:Int):DWorld:=(2,[arcF20 0 1 10 20,arcF20 1 0 10 10],[(0,0,100,400,4,0,0,0,0)],[(0,0,1,110,120,160,ride,seats,0,0)],[],100,30,300)
def entSome20:Ent:=⟨35,.cons (.int .i64) (.cons (.int .i64) .nil),(.st (.cons (.int .i64) (.cons (.sl (.st (.cons (.int .i64) (.cons (.int .i64) (.cons (.sl (.int .i64)) (.sl (.int .i64))))))) (.cons (.sl (.st (.cons (.int .i64) (.cons (.int .i64) (.cons (.int .i64) (.cons (.int .i64) (.cons (.int .i64) (.cons (.int .i64) (.cons (.int .i64) (.cons (.int .i64) (.int .i64))))))))))) (.cons (.sl (.st (.cons (.int .i64) (.cons (.int .i64) (.cons (.int .i64) (.cons (.int .i64) (.cons (.int .i64) (.cons (.int .i64) (.cons (.int .i64) (.cons (.int .i64) (.cons (.int .i64) (.int .i64)))))))))))) (.cons (.sl (.st (.cons (.int .i64) (.cons (.int .i64) .bool)))) (.st (.cons (.int .i64) (.cons (.int .i64) (.int .i64)))))))))),false,none,fun _=>True,fun x=>some20 x.1 x.2.1⟩
def csSome20:List Ent:=[entArc20] theorem hcsSome20 (f:FuncId):findEnt csSome20 f=findEnt [entArc20] f:=rfl
theorem conSome20:Con Tryz.prog entSome20:=by
 refine con_is (C:=csSome20) x35 (by kernel_rfl) (by simp [csSome20,conArc20]) fun x _ hf=>?_
 obtain ⟨(r:Int),(s:Int),_⟩:=x
 dsimp only [entSome20,x35];simp only [↓hcsSome20,entArc20,undef,go_sem,Nat.reduceAdd,Nat.reduceSub,Nat.reduceMul,Nat.reduceLT,Nat.reduceLeDiff,Nat.reduceEqDiff,Nat.reduceBEq,Nat.reduceBNe,List.reduceReplicate,reduceIte,reduceCtorEq,↓reduceIte]
 try simp only [td,reduceCtorEq]
 all_goals rfl
end T
end Go.Proofs.YtecdcopihghnaaaGreat
end
section
namespace Go.Proofs.YtecdcopihghnaaaGreat
set_option linter.unusedVariables false
set_option linter.unusedSimpArgs false
open Go.RowKit Go.IntWalk
namespace T
theorem tk20 (a b lo hi:Int) (h:Bool) (u:Int):(toArc (arcF20 a b lo hi)).tk h u=if h then hi else lo:=by
 have hl:=hour_lt u
 unfold Arc.tk Arc.row
 cases h
 ·show (List.replicate 24 lo).getD _ 0=lo
  rw [List.getD_eq_getElem?_getD,List.getElem?_replicate,if_pos hl];rfl
 ·show (List.replicate 24 hi).getD _ 0=hi
  rw [List.getD_eq_getElem?_getD,List.getElem?_replicate,if_pos hl];rfl
theorem pass20 {a b lo hi:Int} {h:Bool} {x p:Int} (h1:x≤1048576) (e:p=x+if h then hi else lo):(toArc (arcF20 a b lo hi)).pass h x=p:=by
 refine Arc.pass_eq h1 ⟨⟨x,Int.le_refl _,h1,by rw [tk20];exact e⟩,fun v v1 v2=>?_⟩
 rw [tk20,e]
 omega
theorem ex20 (f0 f1:Int→Int) (h0:f0 110=130) (h1:f1 130=140) (E:Nat→Move) (e0:E 0=(0,1,f0)) (e1:E 1=(1,0,f1)):searchF false E 2 2 0 110=[(110,-1),(130,0)]:=by
 simp [searchF,runF,relaxTo,pickTo,reachF,betterB,timeB,isTime,h0,h1,e0,e1,List.replicate,List.set]
abbrev arcs20:List DArc:=[arcF20 0 1 10 20,arcF20 1 0 10 10]
theorem q20:(toArc (arcF20 0 1 10 20)).passF true 110=130:=by rw [Arc.passF_yes _ (by decide) ⟨by decide,by decide⟩,pass20 (p:=130) (by decide) (by decide)]
theorem q21:(toArc (arcF20 1 0 10 10)).passF true 130=140:=by rw [Arc.passF_yes _ (by decide) ⟨by decide,by decide⟩,pass20 (p:=140) (by decide) (by decide)]
theorem ey20:earlyF 2 arcs20 0 110 true=([(110,-1),(130,0)],0,()):=by
 unfold earlyF
 rw [show rightR 2 arcs20=true by decide,if_neg (by decide),show searchF false (moveE arcs20 true) arcs20.length (2:Int).toNat (0:Int).toNat 110=_ from ex20 _ _ q20 q21 (moveE arcs20 true) rfl rfl]
theorem wy20:wayF [(110,-1),(130,0)] arcs20 1=[0]:=by decide
theorem lw20 (r s:Int):legF (some20 r s) 0 1 (110,120)=((10,20),true):=by
 have e:legWay (some20 r s) 0 1 (110,120)=[0]:=by
  unfold legWay
  show wayF (earlyF 2 arcs20 0 110 true).1 arcs20 1=[0]
  rw [ey20];exact wy20
 unfold legF
 rw [if_neg (by decide),e]
 exact congrArg (fun x=>(x,true)) (by decide +kernel:([0]:List Int).foldl (legStep arcs20 110 120) (0,0)=(10,20))
abbrev st20:List DStop:=[(0,true),(0,false)]
theorem ch20 (r:Int) (hr:r=30∨r=15):chainF (some20 r 1) 0 st20=(([(100,400),(110,120),(110,160)],[(0,0),(10,20)],[(1,2,r)]),0):=by
 have l0:legAt (some20 r 1) 0 st20 0=((0,0),true):=by rcases hr with rfl | rfl <;> rfl
 have l1:legAt (some20 r 1) 0 st20 1=((10,20),true):=by rcases hr with rfl | rfl <;> exact lw20 _ _
 have a1:¬ asksF (some20 r 1) 0 st20=false:=by rcases hr with rfl | rfl <;> decide +kernel
 have a2:¬ (List.range (st20.length+1)).any (badW (some20 r 1) 0 st20)=true:=by rcases hr with rfl | rfl <;> decide +kernel
 have a3:¬ (List.range st20.length).any (fun k=>!(legAt (some20 r 1) 0 st20 k).2)=true:=by
  show ¬ ([0,1]:List Nat).any (fun k=>!(legAt (some20 r 1) 0 st20 k).2)=true
  rw [List.any_cons,List.any_cons,List.any_nil,l0,l1];decide
 have a4:legsF (some20 r 1) 0 st20=[(0,0),(10,20)]:=by
  show [(legAt (some20 r 1) 0 st20 0).1,(legAt (some20 r 1) 0 st20 1).1]=_
  rw [l0,l1]
 have a5:winsF (some20 r 1) 0 st20=[(100,400),(110,120),(110,160)]:=by rcases hr with rfl | rfl <;> decide +kernel
 have a6:ridesR (some20 r 1) st20 st20.length=[(1,2,r)]:=by rcases hr with rfl | rfl <;> decide +kernel
 unfold chainF
 rw [if_neg a1,if_neg a2,if_neg a3,a4,a5,a6]
theorem bg20 (r:Int) (hr:r=30∨r=15):begF (some20 r 1) 0 st20=(([(100,400),(110,120),(110,160)],[(0,0),(10,20)],[(1,2,r)]),0):=by
 unfold begF
 rw [if_neg (by rcases hr with rfl | rfl <;> decide +kernel),if_neg (by rcases hr with rfl | rfl <;> decide +kernel),if_neg (by rcases hr with rfl | rfl <;> decide +kernel),ch20 r hr]
theorem sm1:makeF (some20 30 1) 0 st20=((0,st20,[(0,0),(10,20)],[100,110,110]),0):=by
 rw [makeF_eq,bg20 30 (.inl rfl)];decide +kernel
theorem sm2:(makeF (some20 15 1) 0 st20).2=20:=by
 rw [makeF_eq,bg20 15 (.inr rfl)];decide +kernel
theorem sm3:(makeF (some20 30 5) 0 st20).2=27:=by decide +kernel
theorem sm5:checkP (some20 30 1) (0,st20,[(0,0),(10,20)],[100,110,110])=0:=by
 rw [checkP_eq];dsimp only;rw [bg20 30 (.inl rfl)];decide +kernel
theorem sm4:endP (some20 30 1) (0,st20,[(0,0),(10,20)],[100,110,110])=(130,0):=by
 rw [endP_eq,sm5];dsimp only;rw [ch20 30 (.inl rfl)];decide +kernel
theorem sm6:rightP (some20 30 1)=true:=by decide +kernel
end T
end Go.Proofs.YtecdcopihghnaaaGreat
end
section
namespace Go.Proofs.YtecdcopihghnaaaGreat
set_option linter.unusedVariables false
set_option linter.unusedSimpArgs false
open Go.RowKit Go.IntWalk
namespace T
def entSmall20:Ent:=⟨8,.nil,.bool,false,none,fun _=>True,fun _=>true⟩
def gSo (so:Int→Int→DWorld):Ent:={ entSome20 with F:=fun x=>so x.1 x.2.1 }
def gMk (mk:DWorld→Int→List DStop→DPlan × Int):Ent:={ entMk with F:=fun x=>((mk x.1 x.2.1 x.2.2.1).1,(mk x.1 x.2.1 x.2.2.1).2,()) }
def gEn (en:DWorld→DPlan→Int × Int):Ent:={ entEnd with F:=fun x=>((en x.1 x.2.1).1,(en x.1 x.2.1).2,()) }
def gCk (ck:DWorld→DPlan→Int):Ent:={ entCkP with F:=fun x=>ck x.1 x.2.1 }
def gRp (rp:DWorld→Bool):Ent:={ entPlR with F:=fun x=>rp x.1 }
def csSmall20 (so:Int→Int→DWorld) (mk:DWorld→Int→List DStop→DPlan × Int) (en:DWorld→DPlan→Int × Int) (ck:DWorld→DPlan→Int) (rp:DWorld→Bool):List Ent:=[gSo so,gMk mk,gEn en,gCk ck,gRp rp,entSmP]
theorem hcsSmall20 (so:Int→Int→DWorld) (mk:DWorld→Int→List DStop→DPlan × Int) (en:DWorld→DPlan→Int × Int) (ck:DWorld→DPlan→Int) (rp:DWorld→Bool) (f:FuncId):findEnt (csSmall20 so mk en ck rp) f=findEnt [gSo so,gMk mk,gEn en,gCk ck,gRp rp,entSmP] f:=rfl
theorem small_gen {so:Int→Int→DWorld} {mk:DWorld→Int→List DStop→DPlan × Int} {en:DWorld→DPlan→Int × Int} {ck:DWorld→DPlan→Int} {rp:DWorld→Bool}
  (c1:Con Tryz.prog (gSo so)) (c2:Con Tryz.prog (gMk mk)) (c3:Con Tryz.prog (gEn en)) (c4:Con Tryz.prog (gCk ck)) (c5:Con Tryz.prog (gRp rp))
  (a1:mk (so 30 1) 0 [(0,true),(0,false)]=((0,[(0,true),(0,false)],[(0,0),(10,20)],[100,110,110]),0)) (a2:(mk (so 15 1) 0 [(0,true),(0,false)]).2=20) (a3:(mk (so 30 5) 0 [(0,true),(0,false)]).2=27)
  (a4:en (so 30 1) (0,[(0,true),(0,false)],[(0,0),(10,20)],[100,110,110])=(130,0)) (a5:ck (so 30 1) (0,[(0,true),(0,false)],[(0,0),(10,20)],[100,110,110])=0) (a6:rp (so 30 1)=true):Con Tryz.prog entSmall20:=by
 refine con_isM (C:=csSmall20 so mk en ck rp) z8 (by kernel_rfl) (by simp [csSmall20,c1,c2,c3,c4,c5,conSmP]) fun x _ hf=>?_
 dsimp only [entSmall20,z8];simp only [↓hcsSmall20,gSo,gMk,gEn,gCk,gRp,entSome20,entMk,entEnd,entSmP,entCkP,entPlR,undef,go_sem,Nat.reduceAdd,Nat.reduceSub,Nat.reduceMul,Nat.reduceLT,Nat.reduceLeDiff,Nat.reduceEqDiff,Nat.reduceBEq,Nat.reduceBNe,List.reduceReplicate,reduceIte,reduceCtorEq,↓reduceIte]
 refine XW_top (XW_frz 1 3 rfl rfl (XW_of ?_))
 dsimp only
 simp only [↓hcsSmall20,gSo,gMk,gEn,gCk,gRp,entSome20,entMk,entEnd,entSmP,entCkP,entPlR,undef,a1,a2,a3,a4,a5,a6,go_sem,Nat.reduceAdd,Nat.reduceSub,Nat.reduceMul,Nat.reduceLT,Nat.reduceLeDiff,Nat.reduceEqDiff,Nat.reduceBEq,Nat.reduceBNe,List.reduceReplicate,reduceIte,reduceCtorEq,↓reduceIte]
 try simp only [a1,a2,a3,a4,a5,a6,td,reduceCtorEq]
theorem conSmall20:Con Tryz.prog entSmall20:=small_gen (so:=some20) (mk:=makeF) (en:=endP) (ck:=checkP) (rp:=rightP) conSome20 conMk conEnd conCkP conPlR sm1 sm2 sm3 sm4 sm5 sm6
end T
end Go.Proofs.YtecdcopihghnaaaGreat
end
section
namespace Go.Proofs.YtecdcopihghnaaaGreat
set_option linter.unusedVariables false
set_option linter.unusedSimpArgs false
open Go.RowKit Go.IntWalk
namespace T
def entKeeps20:Ent:=⟨3,.cons (.st (.cons (.int .i64) (.cons (.sl (.st (.cons (.int .i64) (.cons (.int .i64) (.cons (.sl (.int .i64)) (.sl (.int .i64))))))) (.cons (.sl (.st (.cons (.int .i64) (.cons (.int .i64) (.cons (.int .i64) (.cons (.int .i64) (.cons (.int .i64) (.cons (.int .i64) (.cons (.int .i64) (.cons (.int .i64) (.int .i64))))))))))) (.cons (.sl (.st (.cons (.int .i64) (.cons (.int .i64) (.cons (.int .i64) (.cons (.int .i64) (.cons (.int .i64) (.cons (.int .i64) (.cons (.int .i64) (.cons (.int .i64) (.cons (.int .i64) (.int .i64)))))))))))) (.cons (.sl (.st (.cons (.int .i64) (.cons (.int .i64) .bool)))) (.st (.cons (.int .i64) (.cons (.int .i64) (.int .i64)))))))))) (.cons (.st (.cons (.int .i64) (.cons (.sl (.st (.cons (.int .i64) .bool))) (.cons (.sl (.st (.cons (.int .i64) (.int .i64)))) (.sl (.int .i64)))))) (.cons (.sl (.int .u16)) .nil)),.bool,false,none,fun _=>True,fun _=>true⟩
def csKeeps20:List Ent:=[entSmall20,entFew20,entFwP,entOf20,entChn,entCkP,entTak,entRun] theorem hcsKeeps20 (f:FuncId):findEnt csKeeps20 f=findEnt [entSmall20,entFew20,entFwP,entOf20,entChn,entCkP,entTak,entRun] f:=rfl
set_option maxHeartbeats 4000000 in
theorem conKeeps20:Con Tryz.prog entKeeps20:=by
 refine con_is (C:=csKeeps20) x3 (by kernel_rfl) (by simp [csKeeps20,conSmall20,conFew20,conFwP,conOf20,conChn,conCkP,conTak,conRun]) fun x _ hf=>?_
 obtain ⟨(w:DWorld),(p:DPlan),(b:List Int),_⟩:=x
 dsimp only [entKeeps20,x3]
 cases h1:few20 w []
 ·simp only [↓hcsKeeps20,entSmall20,entFew20,entFwP,entOf20,entChn,entCkP,entTak,entRun,undef,h1,go_sem,Nat.reduceAdd,Nat.reduceSub,Nat.reduceMul,Nat.reduceLT,Nat.reduceLeDiff,Nat.reduceEqDiff,Nat.reduceBEq,Nat.reduceBNe,List.reduceReplicate,reduceIte,reduceCtorEq,↓reduceIte]
  try simp only [h1,td,reduceCtorEq]
 by_cases h2:p.2.1.length≤10∧p.2.2.1.length≤12∧p.2.2.2.length≤12
 ·have h4:p.2.1.length≤24:=by omega
  have h6:p.2.2.1.length≤1000:=by omega
  have h5:decide (p.2.1.length≤10∧p.2.2.1.length≤12∧p.2.2.2.length≤12)=true:=decide_eq_true h2
  by_cases he:checkP w p=0
  ·have hg:legsOk p.2.2.1:=(good_legs he).2
   have hC:=(check_ok he).2.1
   have hT:=good_run he (takes_took hg b)
   have hTl:(playF p.2.2.2 (takesF p.2.2.1 b)).length=p.2.1.length+1:=by rw [playF_len,(tookB_iff.1 (takes_took hg b)).1,(good_legs he).1]
   obtain ⟨k1,k2,k3,k4⟩:=keeps_law he (takes_took hg b)
   have hAt:∀ j,j≤p.2.1.length→(playF p.2.2.2 (takesF p.2.2.1 b)).getD j 0=tmF p.2.2.2 (takesF p.2.2.1 b) j:=fun j hj=>playF_getD _ _ (by omega)
   obtain ⟨ha1,ha2,ha3⟩:=asks_iff.1 (good_has he).1
   have hTb:∀ j,j≤p.2.1.length→0≤(playF p.2.2.2 (takesF p.2.2.1 b)).getD j 0∧(playF p.2.2.2 (takesF p.2.2.1 b)).getD j 0≤30000000:=fun j hj=>by
    rw [hAt j hj]
    have q3:=(fitsG_iff.1 (good_has he).2.2.2.1).2.2
    have q4:=took_within (good_has he).2.2.1 (takes_took hg b)
    have:=tmF_bd q3 q4 j
    omega
   generalize playF p.2.2.2 (takesF p.2.2.1 b)=T at *
   have hn1:IntKind.i64.wrap (((p.2.1.length+1:Nat):Int) - 1)=(p.2.1.length:Int):=(i64_in _ (by omega)).trans (by omega)
   have hw0:IntKind.i64.wrap ((p.2.1.length:Int)+1)=((p.2.1.length+1:Nat):Int):=i64_in _ (by omega)
   have hn2:(p.2.1.length:Int) < ((p.2.1.length+1:Nat):Int):=by omega
   have hn3:(0:Int) < ((p.2.1.length+1:Nat):Int):=by omega
   have hn4:p.2.1.length < p.2.1.length+1:=by omega
   have c1:=ha2.1
   have c2:=ha2.2
   have k2':(w.2.2.1.getD p.1.toNat (0,0,0,0,0,0,0,0,0)).2.2.1≤T.getD 0 0:=by rw [hAt 0 (Nat.zero_le _)];exact k2
   have k3':T.getD p.2.1.length 0≤(w.2.2.1.getD p.1.toNat (0,0,0,0,0,0,0,0,0)).2.2.2.1:=by rw [hAt _ (Nat.le_refl _)];exact k3
   have k2n:=Int.not_lt.2 k2'
   have k3n:=Int.not_lt.2 k3'
   have z0:(0:Int)≤0:=Int.le_refl _
   simp only [↓hcsKeeps20,entSmall20,entFew20,entFwP,entOf20,entChn,entCkP,entTak,entRun,undef,h1,h4,h5,h6,he,hg,hC,hT,hTl,hw0,hn1,hn2,hn3,hn4,c1,c2,k2',k3',k2n,k3n,z0,Int.toNat_natCast,go_sem,Nat.reduceAdd,Nat.reduceSub,Nat.reduceMul,Nat.reduceLT,Nat.reduceLeDiff,Nat.reduceEqDiff,Nat.reduceBEq,Nat.reduceBNe,List.reduceReplicate,reduceIte,reduceCtorEq,↓reduceIte]
   try simp only [h1,h4,h5,h6,he,hg,hC,hT,hTl,hw0,hn1,hn2,hn3,hn4,c1,c2,k2',k3',k2n,k3n,z0,Int.toNat_natCast,td,reduceCtorEq]
   refine XW_for 1000 x3_0d [0,1] Nat (fun j=>[(14,.val (.int .i64) (j:Int))]) (fun _=>[]) (fun j=>j≤p.2.1.length) (fun j=>p.2.1.length - j) 0 ?_ ?_ ?_
   ·dsimp only [x3_0d]
    simp only [go_sem,Nat.reduceAdd,Nat.reduceSub,Nat.reduceMul,Nat.reduceLT,Nat.reduceLeDiff,Nat.reduceEqDiff,Nat.reduceBEq,Nat.reduceBNe,List.reduceReplicate,reduceIte,reduceCtorEq,↓reduceIte]
    try trivial
   ·exact Nat.zero_le _
   intro j hj
   have w2:j < p.2.1.length→IntKind.i64.wrap ((j:Int)+1)=((j+1:Nat):Int):=fun h=>i64_in _ (by omega)
   dsimp only [x3_0,x3_0d]
   by_cases hj':j < p.2.1.length
   ·have hq:=(ha3.2 j hj').1
    have q1:=hq.1
    have q2:=hq.2
    have w2':=w2 hj'
    have n1:((j+1:Nat):Int) < ((p.2.1.length+1:Nat):Int):=by omega
    have n2:j+1 < p.2.1.length+1:=by omega
    obtain ⟨s1,s2,s3⟩:=k4 j hj'
    rw [← hAt (j+1) hj'] at s1 s2
    rcases Bool.eq_false_or_eq_true (p.2.1.getD j (0,false)).2 with hp | hp
    ·have s1':=s1 hp
     have t1:(w.2.2.2.1.getD (p.2.1.getD j (0,false)).1.toNat (0,0,0,0,0,0,0,0,0,0)).2.2.2.1≤T.getD (j+1) 0:=s1'.1
     have t2:T.getD (j+1) 0≤(w.2.2.2.1.getD (p.2.1.getD j (0,false)).1.toNat (0,0,0,0,0,0,0,0,0,0)).2.2.2.2.1:=s1'.2
     have t1n:=Int.not_lt.2 t1
     have t2n:=Int.not_lt.2 t2
     simp only [↓hcsKeeps20,entSmall20,entFew20,entFwP,entOf20,entChn,entCkP,entTak,entRun,undef,hj',hTl,w2',n1,n2,q1,q2,hp,t1,t2,t1n,t2n,Int.toNat_natCast,go_sem,Nat.reduceAdd,Nat.reduceSub,Nat.reduceMul,Nat.reduceLT,Nat.reduceLeDiff,Nat.reduceEqDiff,Nat.reduceBEq,Nat.reduceBNe,List.reduceReplicate,reduceIte,reduceCtorEq,↓reduceIte]
     try simp only [hj',hTl,w2',n1,n2,q1,q2,hp,t1,t2,t1n,t2n,Int.toNat_natCast,td,reduceCtorEq]
     refine XW_for 2000 x3_1d [0,1,1015] Nat (fun m=>[(17,.val (.int .i64) (m:Int))]) (fun _=>[]) (fun m=>m≤j) (fun m=>j - m) 0 ?_ ?_ ?_
     ·dsimp only [x3_1d]
      simp only [go_sem,Nat.reduceAdd,Nat.reduceSub,Nat.reduceMul,Nat.reduceLT,Nat.reduceLeDiff,Nat.reduceEqDiff,Nat.reduceBEq,Nat.reduceBNe,List.reduceReplicate,reduceIte,reduceCtorEq,↓reduceIte]
      try trivial
     ·exact Nat.zero_le _
     intro m hm
     dsimp only [x3_1,x3_1d]
     by_cases hm':m < j
     ·have m1:m < p.2.1.length:=by omega
      have m2:m+1 < p.2.1.length+1:=by omega
      have w3:IntKind.i64.wrap ((m:Int)+1)=((m+1:Nat):Int):=i64_in _ (by omega)
      have b1:=hTb (m+1) (by omega)
      have b2:=hTb (j+1) (by omega)
      have w4:IntKind.i64.wrap (T.getD (j+1) 0 - T.getD (m+1) 0)=T.getD (j+1) 0 - T.getD (m+1) 0:=i64_in _ (by omega)
      by_cases hs:(p.2.1.getD m (0,false)).1=(p.2.1.getD j (0,false)).1
      ·have s3':=s3 m hm' hs
       rw [← hAt (m+1) (by omega),← hAt (j+1) (by omega)] at s3'
       have s4:T.getD (j+1) 0 - T.getD (m+1) 0≤(w.2.2.2.1.getD (p.2.1.getD j (0,false)).1.toNat (0,0,0,0,0,0,0,0,0,0)).2.2.2.2.2.2.1:=s3'
       have s5:=Int.not_lt.2 s4
       simp only [↓hcsKeeps20,entSmall20,entFew20,entFwP,entOf20,entChn,entCkP,entTak,entRun,undef,hj',hm',hTl,w3,w4,m1,m2,hs,s4,s5,Int.toNat_natCast,go_sem,Nat.reduceAdd,Nat.reduceSub,Nat.reduceMul,Nat.reduceLT,Nat.reduceLeDiff,Nat.reduceEqDiff,Nat.reduceBEq,Nat.reduceBNe,List.reduceReplicate,reduceIte,reduceCtorEq,↓reduceIte]
       try simp only [hj',hm',hTl,w3,w4,m1,m2,hs,s4,s5,Int.toNat_natCast,td,reduceCtorEq]
       exact ⟨m+1,by omega,by omega,rfl⟩
      ·simp only [↓hcsKeeps20,entSmall20,entFew20,entFwP,entOf20,entChn,entCkP,entTak,entRun,undef,hj',hm',hTl,w3,w4,m1,m2,hs,Int.toNat_natCast,go_sem,Nat.reduceAdd,Nat.reduceSub,Nat.reduceMul,Nat.reduceLT,Nat.reduceLeDiff,Nat.reduceEqDiff,Nat.reduceBEq,Nat.reduceBNe,List.reduceReplicate,reduceIte,reduceCtorEq,↓reduceIte]
       try simp only [hj',hm',hTl,w3,w4,m1,m2,hs,Int.toNat_natCast,td,reduceCtorEq]
       exact ⟨m+1,by omega,by omega,rfl⟩
     ·simp only [↓hcsKeeps20,entSmall20,entFew20,entFwP,entOf20,entChn,entCkP,entTak,entRun,undef,hm',hTl,w2',go_sem,Nat.reduceAdd,Nat.reduceSub,Nat.reduceMul,Nat.reduceLT,Nat.reduceLeDiff,Nat.reduceEqDiff,Nat.reduceBEq,Nat.reduceBNe,List.reduceReplicate,reduceIte,reduceCtorEq,↓reduceIte]
      try simp only [hm',hTl,w2',td,reduceCtorEq]
      exact ⟨j+1,by omega,by omega,rfl⟩
    ·have t1:T.getD (j+1) 0≤(w.2.2.2.1.getD (p.2.1.getD j (0,false)).1.toNat (0,0,0,0,0,0,0,0,0,0)).2.2.2.2.2.1:=s2 hp
     have t1n:=Int.not_lt.2 t1
     simp only [↓hcsKeeps20,entSmall20,entFew20,entFwP,entOf20,entChn,entCkP,entTak,entRun,undef,hj',hTl,w2',n1,n2,q1,q2,hp,t1,t1n,Int.toNat_natCast,go_sem,Nat.reduceAdd,Nat.reduceSub,Nat.reduceMul,Nat.reduceLT,Nat.reduceLeDiff,Nat.reduceEqDiff,Nat.reduceBEq,Nat.reduceBNe,List.reduceReplicate,reduceIte,reduceCtorEq,↓reduceIte]
     try simp only [hj',hTl,w2',n1,n2,q1,q2,hp,t1,t1n,Int.toNat_natCast,td,reduceCtorEq]
     refine XW_for 2000 x3_1d [0,1,1015] Nat (fun m=>[(17,.val (.int .i64) (m:Int))]) (fun _=>[]) (fun m=>m≤j) (fun m=>j - m) 0 ?_ ?_ ?_
     ·dsimp only [x3_1d]
      simp only [go_sem,Nat.reduceAdd,Nat.reduceSub,Nat.reduceMul,Nat.reduceLT,Nat.reduceLeDiff,Nat.reduceEqDiff,Nat.reduceBEq,Nat.reduceBNe,List.reduceReplicate,reduceIte,reduceCtorEq,↓reduceIte]
      try trivial
     ·exact Nat.zero_le _
     intro m hm
     dsimp only [x3_1,x3_1d]
     by_cases hm':m < j
     ·have m1:m < p.2.1.length:=by omega
      have m2:m+1 < p.2.1.length+1:=by omega
      have w3:IntKind.i64.wrap ((m:Int)+1)=((m+1:Nat):Int):=i64_in _ (by omega)
      have b1:=hTb (m+1) (by omega)
      have b2:=hTb (j+1) (by omega)
      have w4:IntKind.i64.wrap (T.getD (j+1) 0 - T.getD (m+1) 0)=T.getD (j+1) 0 - T.getD (m+1) 0:=i64_in _ (by omega)
      by_cases hs:(p.2.1.getD m (0,false)).1=(p.2.1.getD j (0,false)).1
      ·have s3':=s3 m hm' hs
       rw [← hAt (m+1) (by omega),← hAt (j+1) (by omega)] at s3'
       have s4:T.getD (j+1) 0 - T.getD (m+1) 0≤(w.2.2.2.1.getD (p.2.1.getD j (0,false)).1.toNat (0,0,0,0,0,0,0,0,0,0)).2.2.2.2.2.2.1:=s3'
       have s5:=Int.not_lt.2 s4
       simp only [↓hcsKeeps20,entSmall20,entFew20,entFwP,entOf20,entChn,entCkP,entTak,entRun,undef,hj',hm',hTl,w3,w4,m1,m2,hs,s4,s5,Int.toNat_natCast,go_sem,Nat.reduceAdd,Nat.reduceSub,Nat.reduceMul,Nat.reduceLT,Nat.reduceLeDiff,Nat.reduceEqDiff,Nat.reduceBEq,Nat.reduceBNe,List.reduceReplicate,reduceIte,reduceCtorEq,↓reduceIte]
       try simp only [hj',hm',hTl,w3,w4,m1,m2,hs,s4,s5,Int.toNat_natCast,td,reduceCtorEq]
       exact ⟨m+1,by omega,by omega,rfl⟩
      ·simp only [↓hcsKeeps20,entSmall20,entFew20,entFwP,entOf20,entChn,entCkP,entTak,entRun,undef,hj',hm',hTl,w3,w4,m1,m2,hs,Int.toNat_natCast,go_sem,Nat.reduceAdd,Nat.reduceSub,Nat.reduceMul,Nat.reduceLT,Nat.reduceLeDiff,Nat.reduceEqDiff,Nat.reduceBEq,Nat.reduceBNe,List.reduceReplicate,reduceIte,reduceCtorEq,↓reduceIte]
       try simp only [hj',hm',hTl,w3,w4,m1,m2,hs,Int.toNat_natCast,td,reduceCtorEq]
       exact ⟨m+1,by omega,by omega,rfl⟩
     ·simp only [↓hcsKeeps20,entSmall20,entFew20,entFwP,entOf20,entChn,entCkP,entTak,entRun,undef,hm',hTl,w2',go_sem,Nat.reduceAdd,Nat.reduceSub,Nat.reduceMul,Nat.reduceLT,Nat.reduceLeDiff,Nat.reduceEqDiff,Nat.reduceBEq,Nat.reduceBNe,List.reduceReplicate,reduceIte,reduceCtorEq,↓reduceIte]
      try simp only [hm',hTl,w2',td,reduceCtorEq]
      exact ⟨j+1,by omega,by omega,rfl⟩
   ·simp only [↓hcsKeeps20,entSmall20,entFew20,entFwP,entOf20,entChn,entCkP,entTak,entRun,undef,hj',go_sem,Nat.reduceAdd,Nat.reduceSub,Nat.reduceMul,Nat.reduceLT,Nat.reduceLeDiff,Nat.reduceEqDiff,Nat.reduceBEq,Nat.reduceBNe,List.reduceReplicate,reduceIte,reduceCtorEq,↓reduceIte]
    try simp only [hj',td,reduceCtorEq]
  ·simp only [↓hcsKeeps20,entSmall20,entFew20,entFwP,entOf20,entChn,entCkP,entTak,entRun,undef,h1,h4,h5,h6,he,go_sem,Nat.reduceAdd,Nat.reduceSub,Nat.reduceMul,Nat.reduceLT,Nat.reduceLeDiff,Nat.reduceEqDiff,Nat.reduceBEq,Nat.reduceBNe,List.reduceReplicate,reduceIte,reduceCtorEq,↓reduceIte]
   try simp only [h1,h4,h5,h6,he,td,reduceCtorEq]
 ·have h5:decide (p.2.1.length≤10∧p.2.2.1.length≤12∧p.2.2.2.length≤12)=false:=decide_eq_false h2
  simp only [↓hcsKeeps20,entSmall20,entFew20,entFwP,entOf20,entChn,entCkP,entTak,entRun,undef,h1,h5,go_sem,Nat.reduceAdd,Nat.reduceSub,Nat.reduceMul,Nat.reduceLT,Nat.reduceLeDiff,Nat.reduceEqDiff,Nat.reduceBEq,Nat.reduceBNe,List.reduceReplicate,reduceIte,reduceCtorEq,↓reduceIte]
  try simp only [h1,h5,td,reduceCtorEq]
end T
end Go.Proofs.YtecdcopihghnaaaGreat
end
section
namespace Go.Proofs.YtecdcopihghnaaaGreat
set_option linter.unusedVariables false
set_option linter.unusedSimpArgs false
open Go.RowKit Go.IntWalk
namespace T
theorem noPlan_sum:(noPlan.2.1.length:Int)=0∧(noPlan.2.2.1.length:Int)=0∧(noPlan.2.2.2.length:Int)=0:=by decide
def entMade:Ent:=⟨4,.cons (.st (.cons (.int .i64) (.cons (.sl (.st (.cons (.int .i64) (.cons (.int .i64) (.cons (.sl (.int .i64)) (.sl (.int .i64))))))) (.cons (.sl (.st (.cons (.int .i64) (.cons (.int .i64) (.cons (.int .i64) (.cons (.int .i64) (.cons (.int .i64) (.cons (.int .i64) (.cons (.int .i64) (.cons (.int .i64) (.int .i64))))))))))) (.cons (.sl (.st (.cons (.int .i64) (.cons (.int .i64) (.cons (.int .i64) (.cons (.int .i64) (.cons (.int .i64) (.cons (.int .i64) (.cons (.int .i64) (.cons (.int .i64) (.cons (.int .i64) (.int .i64)))))))))))) (.cons (.sl (.st (.cons (.int .i64) (.cons (.int .i64) .bool)))) (.st (.cons (.int .i64) (.cons (.int .i64) (.int .i64)))))))))) (.cons (.int .i64) (.cons (.sl (.st (.cons (.int .i64) .bool))) (.cons (.sl (.int .i64)) .nil))),.bool,false,none,fun _=>True,fun _=>true⟩
def csMade:List Ent:=[entSmall20,entFew20,entOf20,entChn,entCkP,entMk,entSmSt,entSmLg] theorem hcsMade (f:FuncId):findEnt csMade f=findEnt [entSmall20,entFew20,entOf20,entChn,entCkP,entMk,entSmSt,entSmLg] f:=rfl
set_option maxHeartbeats 4000000 in
theorem conMade:Con Tryz.prog entMade:=by
 refine con_is (C:=csMade) x4 (by kernel_rfl) (by simp [csMade,conSmall20,conFew20,conOf20,conChn,conCkP,conMk,conSmSt,conSmLg]) fun x _ hf=>?_
 obtain ⟨⟨(N:Int),(A:List DArc),(C:List DCar),(Q:List DReq),(R:List DPair),(S1:Int),(S2:Int),(S3:Int)⟩,(c:Int),(ss:List DStop),(g:List Int),_⟩:=x
 obtain ⟨w,hw⟩:∃ w:DWorld,w=(N,A,C,Q,R,S1,S2,S3):=⟨_,rfl⟩
 dsimp only [entMade,x4]
 cases h1:few20 w ss
 ·rw [hw] at h1
  simp only [↓hcsMade,entSmall20,entFew20,entOf20,entChn,entCkP,entMk,entSmSt,entSmLg,undef,h1,go_sem,Nat.reduceAdd,Nat.reduceSub,Nat.reduceMul,Nat.reduceLT,Nat.reduceLeDiff,Nat.reduceEqDiff,Nat.reduceBEq,Nat.reduceBNe,List.reduceReplicate,reduceIte,reduceCtorEq,↓reduceIte]
  try simp only [h1,td,reduceCtorEq]
 have h3:ss.length≤24:=by
  have e:few20 w ss=true→ss.length≤10:=fun h=>by
   unfold few20 at h;rw [Bool.and_eq_true] at h;exact (of_decide_eq_true h.2).2.2.2.2.2
  have:=e h1
  omega
 by_cases h2:g.length≤12
 ·have h2':(g.length:Int)≤12:=by omega
  have h2n:¬ (g.length:Int) > 12:=by omega
  by_cases hm:(makeF w c ss).2=0
  ·obtain ⟨m1,m2,m3,m4,m5⟩:=made_ok hm
   obtain ⟨G,hmk⟩:∃ G,makeF w c ss=((c,ss,(chainF w c ss).1.2.1,G),0):=⟨(makeF w c ss).1.2.2.2,Prod.ext (Prod.ext m3 (Prod.ext m4 (Prod.ext m5 rfl))) hm⟩
   rw [hmk] at m2
   obtain ⟨⟨W1,L,R1⟩,hc⟩:∃ X:DChain,(chainF w c ss).1=X:=⟨_,rfl⟩
   rw [hc] at m2 hmk
   rw [hw] at h1 m1 m2 hmk hc
   simp only [↓hcsMade,entSmall20,entFew20,entOf20,entChn,entCkP,entMk,entSmSt,entSmLg,undef,h1,h2,h2',h2n,h3,hmk,hc,m1,m2,go_sem,Nat.reduceAdd,Nat.reduceSub,Nat.reduceMul,Nat.reduceLT,Nat.reduceLeDiff,Nat.reduceEqDiff,Nat.reduceBEq,Nat.reduceBNe,List.reduceReplicate,reduceIte,reduceCtorEq,↓reduceIte]
   try simp only [h1,h2,h2',h2n,h3,hmk,hc,m1,m2,td,reduceCtorEq]
  ·obtain ⟨n1,n2,n3⟩:=made_no hm g
   obtain ⟨z1,z2,z3⟩:=noPlan_sum
   have w0:IntKind.i64.wrap ((0:Int)+0)=0:=by decide
   obtain ⟨E,hE⟩:∃ E,(makeF w c ss).2=E:=⟨_,rfl⟩
   have hmk:makeF w c ss=(noPlan,E):=Prod.ext n1 hE
   obtain ⟨⟨W1,L,R1⟩,hc⟩:∃ X:DChain,(chainF w c ss).1=X:=⟨_,rfl⟩
   rw [hE,hc] at n2 n3
   rw [hE] at hm
   obtain ⟨O,hO⟩:∃ O,checkP w (c,ss,L,g)=O:=⟨_,rfl⟩
   dsimp only at n2 n3
   rw [hO] at n2 n3
   rw [hw] at h1 hmk hc hO
   have zz:¬ (0:Int) > 0:=by decide
   have zy:(0:Int)≤0:=by decide
   have fin:E=20∨E=29∨O=E:=n3
   simp only [↓hcsMade,entSmall20,entFew20,entOf20,entChn,entCkP,entMk,entSmSt,entSmLg,undef,h1,h2,h2',h2n,h3,hmk,hc,hO,hm,n1,z1,z2,z3,w0,zz,zy,go_sem,Nat.reduceAdd,Nat.reduceSub,Nat.reduceMul,Nat.reduceLT,Nat.reduceLeDiff,Nat.reduceEqDiff,Nat.reduceBEq,Nat.reduceBNe,List.reduceReplicate,reduceIte,reduceCtorEq,↓reduceIte]
   try simp only [h1,h2,h2',h2n,h3,hmk,hc,hO,hm,n1,z1,z2,z3,w0,zz,zy,td,reduceCtorEq]
   exact ⟨fun h=>n2 h.1 h.2,fun _=>by omega⟩
 ·have h2':¬ (g.length:Int)≤12:=by omega
  have h2n:(g.length:Int) > 12:=by omega
  rw [hw] at h1
  simp only [↓hcsMade,entSmall20,entFew20,entOf20,entChn,entCkP,entMk,entSmSt,entSmLg,undef,h1,h2,h2',h2n,go_sem,Nat.reduceAdd,Nat.reduceSub,Nat.reduceMul,Nat.reduceLT,Nat.reduceLeDiff,Nat.reduceEqDiff,Nat.reduceBEq,Nat.reduceBNe,List.reduceReplicate,reduceIte,reduceCtorEq,↓reduceIte]
  try simp only [h1,h2,h2',h2n,td,reduceCtorEq]
end T
end Go.Proofs.YtecdcopihghnaaaGreat
end
section
namespace Go.Proofs.YtecdcopihghnaaaGreat
set_option linter.unusedVariables false
set_option linter.unusedSimpArgs false
open Go.RowKit Go.IntWalk
namespace T
def entEnds:Ent:=⟨5,.cons (.st (.cons (.int .i64) (.cons (.sl (.st (.cons (.int .i64) (.cons (.int .i64) (.cons (.sl (.int .i64)) (.sl (.int .i64))))))) (.cons (.sl (.st (.cons (.int .i64) (.cons (.int .i64) (.cons (.int .i64) (.cons (.int .i64) (.cons (.int .i64) (.cons (.int .i64) (.cons (.int .i64) (.cons (.int .i64) (.int .i64))))))))))) (.cons (.sl (.st (.cons (.int .i64) (.cons (.int .i64) (.cons (.int .i64) (.cons (.int .i64) (.cons (.int .i64) (.cons (.int .i64) (.cons (.int .i64) (.cons (.int .i64) (.cons (.int .i64) (.int .i64)))))))))))) (.cons (.sl (.st (.cons (.int .i64) (.cons (.int .i64) .bool)))) (.st (.cons (.int .i64) (.cons (.int .i64) (.int .i64)))))))))) (.cons (.st (.cons (.int .i64) (.cons (.sl (.st (.cons (.int .i64) .bool))) (.cons (.sl (.st (.cons (.int .i64) (.int .i64)))) (.sl (.int .i64)))))) (.cons (.sl (.int .u16)) .nil)),.bool,false,none,fun _=>True,fun _=>true⟩
def csEnds:List Ent:=[entSmall20,entFew20,entFwP,entOf20,entChn,entEnd,entCkP,entTak,entHgL,entRun,entWorst,entInt16] theorem hcsEnds (f:FuncId):findEnt csEnds f=findEnt [entSmall20,entFew20,entFwP,entOf20,entChn,entEnd,entCkP,entTak,entHgL,entRun,entWorst,entInt16] f:=rfl
theorem conEnds:Con Tryz.prog entEnds:=by
 refine con_is (C:=csEnds) x5 (by kernel_rfl) (by simp [csEnds,conSmall20,conFew20,conFwP,conOf20,conChn,conEnd,conCkP,conTak,conHgL,conRun,conWorst,conInt16]) fun x _ hf=>?_
 obtain ⟨(w:DWorld),(p:DPlan),(b:List Int),_⟩:=x
 dsimp only [entEnds,x5]
 cases h1:few20 w []
 ·simp only [↓hcsEnds,entSmall20,entFew20,entFwP,entOf20,entChn,entEnd,entCkP,entTak,entHgL,entRun,entWorst,entInt16,undef,h1,go_sem,Nat.reduceAdd,Nat.reduceSub,Nat.reduceMul,Nat.reduceLT,Nat.reduceLeDiff,Nat.reduceEqDiff,Nat.reduceBEq,Nat.reduceBNe,List.reduceReplicate,reduceIte,reduceCtorEq,↓reduceIte]
  try simp only [h1,td,reduceCtorEq]
 by_cases h2:p.2.1.length≤10∧p.2.2.1.length≤12∧p.2.2.2.length≤12
 ·have h4:p.2.1.length≤24:=by omega
  have h6:p.2.2.1.length≤1000:=by omega
  have h5:decide (p.2.1.length≤10∧p.2.2.1.length≤12∧p.2.2.2.length≤12)=true:=decide_eq_true h2
  by_cases he:checkP w p=0
  ·have hg:legsOk p.2.2.1:=(good_legs he).2
   have hE:endP w p=(lastI (playF p.2.2.2 (highsF p.2.2.1)),0):=by rw [endP_eq,if_neg (Decidable.not_not.2 he),good_worst he]
   have hC:=(check_ok he).2.1
   have hT:=good_run he (takes_took hg b)
   have hW:=good_worst he
   have hH:=good_run he (highs_took hg)
   have hTl:(playF p.2.2.2 (takesF p.2.2.1 b)).length=p.2.2.1.length+1:=by rw [playF_len,(tookB_iff.1 (takes_took hg b)).1]
   have hWl:(playF p.2.2.2 (highsF p.2.2.1)).length=p.2.2.1.length+1:=by rw [playF_len,highs_len]
   have hle:∀ j,j < p.2.2.1.length+1→(playF p.2.2.2 (takesF p.2.2.1 b)).getD j 0≤(playF p.2.2.2 (highsF p.2.2.1)).getD j 0:=fun j hj=>by
    have t1:=(tookB_iff.1 (takes_took hg b)).1
    rw [playF_getD _ _ (by omega),playF_getD _ _ (by rw [highs_len];omega)]
    refine tm_mono j fun i hi=>?_
    rw [highs_getD]
    exact ((tookB_iff.1 (takes_took hg b)).2 i (by omega)).2
   have hW0:lastI (playF p.2.2.2 (highsF p.2.2.1))=(playF p.2.2.2 (highsF p.2.2.1)).getD p.2.2.1.length 0:=by unfold lastI;rw [hWl];rfl
   rw [hW0] at hE
   generalize playF p.2.2.2 (takesF p.2.2.1 b)=T at *
   generalize playF p.2.2.2 (highsF p.2.2.1)=W at *
   have hn0:¬ ((p.2.2.1.length+1:Nat):Int)=0:=by omega
   have hn1:IntKind.i64.wrap (((p.2.2.1.length+1:Nat):Int) - 1)=(p.2.2.1.length:Int):=(i64_in _ (by omega)).trans (by omega)
   have hn2:(p.2.2.1.length:Int) < ((p.2.2.1.length+1:Nat):Int):=by omega
   have hn3:p.2.2.1.length < p.2.2.1.length+1:=by omega
   simp only [↓hcsEnds,entSmall20,entFew20,entFwP,entOf20,entChn,entEnd,entCkP,entTak,entHgL,entRun,entWorst,entInt16,undef,h1,h4,h5,h6,he,hg,hE,hC,hT,hW,hH,hTl,hWl,hn0,go_sem,Nat.reduceAdd,Nat.reduceSub,Nat.reduceMul,Nat.reduceLT,Nat.reduceLeDiff,Nat.reduceEqDiff,Nat.reduceBEq,Nat.reduceBNe,List.reduceReplicate,reduceIte,reduceCtorEq,↓reduceIte]
   try simp only [h1,h4,h5,h6,he,hg,hE,hC,hT,hW,hH,hTl,hWl,hn0,td,reduceCtorEq]
   refine XW_for 1000 x5_0d [0,1,15,36] Nat (fun j=>[(17,.val (.int .i64) (j:Int))]) (fun _=>[]) (fun j=>j≤p.2.2.1.length+1) (fun j=>p.2.2.1.length+1 - j) 0 ?_ ?_ ?_
   ·dsimp only [x5_0d]
    simp only [go_sem,Nat.reduceAdd,Nat.reduceSub,Nat.reduceMul,Nat.reduceLT,Nat.reduceLeDiff,Nat.reduceEqDiff,Nat.reduceBEq,Nat.reduceBNe,List.reduceReplicate,reduceIte,reduceCtorEq,↓reduceIte]
    try trivial
   ·exact Nat.zero_le _
   intro j hj
   have w2:j < p.2.2.1.length+1→IntKind.i64.wrap ((j:Int)+1)=((j+1:Nat):Int):=fun h=>i64_in _ (by omega)
   dsimp only [x5_0,x5_0d]
   simp only [↓hcsEnds,entSmall20,entFew20,entFwP,entOf20,entChn,entEnd,entCkP,entTak,entHgL,entRun,entWorst,entInt16,undef,h1,h4,h5,h6,he,hg,hE,hC,hT,hW,hH,hTl,hWl,hn0,hn1,hn2,hn3,Int.toNat_natCast,go_sem,Nat.reduceAdd,Nat.reduceSub,Nat.reduceMul,Nat.reduceLT,Nat.reduceLeDiff,Nat.reduceEqDiff,Nat.reduceBEq,Nat.reduceBNe,List.reduceReplicate,reduceIte,reduceCtorEq,↓reduceIte]
   try simp only [h1,h4,h5,h6,he,hg,hE,hC,hT,hW,hH,hTl,hWl,hn0,hn1,hn2,hn3,Int.toNat_natCast,td,reduceCtorEq]
   exact fun hj'=>⟨hj',fun q=>absurd (hle j hj') (by omega),fun _=>⟨j+1,by omega,hj',w2 hj'⟩⟩
  ·have hE:endP w p=(0,checkP w p):=by rw [endP_eq,if_pos he]
   simp only [↓hcsEnds,entSmall20,entFew20,entFwP,entOf20,entChn,entEnd,entCkP,entTak,entHgL,entRun,entWorst,entInt16,undef,h1,h4,h5,h6,he,hE,go_sem,Nat.reduceAdd,Nat.reduceSub,Nat.reduceMul,Nat.reduceLT,Nat.reduceLeDiff,Nat.reduceEqDiff,Nat.reduceBEq,Nat.reduceBNe,List.reduceReplicate,reduceIte,reduceCtorEq,↓reduceIte]
   try simp only [h1,h4,h5,h6,he,hE,td,reduceCtorEq]
 ·have h5:decide (p.2.1.length≤10∧p.2.2.1.length≤12∧p.2.2.2.length≤12)=false:=decide_eq_false h2
  simp only [↓hcsEnds,entSmall20,entFew20,entFwP,entOf20,entChn,entEnd,entCkP,entTak,entHgL,entRun,entWorst,entInt16,undef,h1,h5,go_sem,Nat.reduceAdd,Nat.reduceSub,Nat.reduceMul,Nat.reduceLT,Nat.reduceLeDiff,Nat.reduceEqDiff,Nat.reduceBEq,Nat.reduceBNe,List.reduceReplicate,reduceIte,reduceCtorEq,↓reduceIte]
  try simp only [h1,h5,td,reduceCtorEq]
end T
end Go.Proofs.YtecdcopihghnaaaGreat
end
section
namespace Go.Proofs.YtecdcopihghnaaaGreat
set_option linter.unusedSimpArgs false
set_option linter.unusedVariables false
namespace T
theorem lowB_min (L:List Int) (f:Nat):∀ n i,i≤n→lowB L f n≤L.getD ((f+i) % 24) 0
 | 0,i,h=>by
  obtain rfl:i=0:=by omega
  exact Int.le_refl _
 | n+1,i,h=>by
  have h1:=minI_le (lowB L f n) (L.getD ((f+(n+1)) % 24) 0)
  show minI _ _≤_
  rcases Nat.lt_or_ge i (n+1) with c | c
  ·exact Int.le_trans h1.1 (lowB_min L f n i (by omega))
  ·obtain rfl:i=n+1:=by omega
   exact h1.2.1
theorem highB_max (L:List Int) (f:Nat):∀ n i,i≤n→L.getD ((f+i) % 24) 0≤highB L f n
 | 0,i,h=>by
  obtain rfl:i=0:=by omega
  exact Int.le_refl _
 | n+1,i,h=>by
  have h1:=maxI_ge (highB L f n) (L.getD ((f+(n+1)) % 24) 0)
  show _≤maxI _ _
  rcases Nat.lt_or_ge i (n+1) with c | c
  ·exact Int.le_trans (highB_max L f n i (by omega)) h1.1
  ·obtain rfl:i=n+1:=by omega
   exact h1.2.1
def hourN (t:Int):Nat:=(t / 60).toNat % 24
theorem bnd_in (a:DArc) {f t u:Int} (h0:0≤f) (h1:f≤u) (h2:u≤t):(bndF a f t).1≤a.2.2.1.getD (hourN u) 0∧a.2.2.2.getD (hourN u) 0≤(bndF a f t).2:=by
 have e:∃ i,i≤hoursN f t∧hourN u=((f / 60).toNat+i) % 24:=by
  refine ⟨((u / 60).toNat - (f / 60).toNat) % 24,?_,?_⟩
  ·unfold hoursN
   have:=Nat.mod_le ((u / 60).toNat - (f / 60).toNat) 24
   have:=Nat.mod_lt ((u / 60).toNat - (f / 60).toNat) (y:=24) (by omega)
   omega
  ·unfold hourN
   rw [Nat.add_mod_mod,show (f / 60).toNat+((u / 60).toNat - (f / 60).toNat)=(u / 60).toNat by omega]
 obtain ⟨i,hi,e⟩:=e
 rw [e]
 exact ⟨lowB_min _ _ _ _ hi,highB_max _ _ _ _ hi⟩
def stepN (a:DArc) (b:List Int) (i:Nat) (now:Int):Int:=a.2.2.1.getD (hourN now) 0+(if i < b.length then b.getD i 0 % (a.2.2.2.getD (hourN now) 0 - a.2.2.1.getD (hourN now) 0+1) else 0)
def nowF (A:List DArc) (W b:List Int) (s:Int):Nat→Int
 | 0=>s
 | i+1=>nowF A W b s i+stepN (A.getD (W.getD i 0).toNat (0,0,[],[])) b i (nowF A W b s i)
theorem step_in {a:DArc} (h:(toArc a).right) (b:List Int) (i:Nat) (now:Int):a.2.2.1.getD (hourN now) 0≤stepN a b i now∧stepN a b i now≤a.2.2.2.getD (hourN now) 0∧0≤a.2.2.1.getD (hourN now) 0∧a.2.2.1.getD (hourN now) 0≤a.2.2.2.getD (hourN now) 0∧a.2.2.2.getD (hourN now) 0≤600:=by
 have h1:=hours_at h (k:=hourN now) (Nat.mod_lt _ (by omega))
 have h2:0≤a.2.2.1.getD (hourN now) 0∧a.2.2.1.getD (hourN now) 0≤a.2.2.2.getD (hourN now) 0∧a.2.2.2.getD (hourN now) 0≤600:=h1
 unfold stepN
 split
 ·have:=Int.emod_nonneg (b.getD i 0) (b:=a.2.2.2.getD (hourN now) 0 - a.2.2.1.getD (hourN now) 0+1) (by omega)
  have:=Int.emod_lt_of_pos (b.getD i 0) (b:=a.2.2.2.getD (hourN now) 0 - a.2.2.1.getD (hourN now) 0+1) (by omega)
  omega
 ·omega
theorem fold_take {A:List DArc} {e l:Int} {W:List Int} {i:Nat} (h:i < W.length):(W.take (i+1)).foldl (legStep A e l) (0,0)=legStep A e l ((W.take i).foldl (legStep A e l) (0,0)) (W.getD i 0):=by
 rw [List.take_succ_eq_append_getElem h,List.foldl_append,List.getD_eq_getElem?_getD,List.getElem?_eq_getElem h]
 rfl
theorem now_in {A:List DArc} (hA:∀ a ∈ A,(toArc a).rightB=true) {W:List Int} (hW:∀ i ∈ W,0≤i∧i < A.length) (b:List Int) {e l s:Int} (h0:0≤e) (h1:e≤s) (h2:s≤l):∀ i,i≤W.length→0≤((W.take i).foldl (legStep A e l) (0,0)).1∧((W.take i).foldl (legStep A e l) (0,0)).1≤nowF A W b s i - s∧nowF A W b s i - s≤((W.take i).foldl (legStep A e l) (0,0)).2
 | 0,_=>by
  show (0:Int)≤0∧(0:Int)≤s - s∧s - s≤0
  omega
 | i+1,h=>by
  obtain ⟨i0,i1,i2⟩:=now_in hA hW b h0 h1 h2 i (by omega)
  have hi:i < W.length:=by omega
  have hw:=hW _ (getD_mem2 (d:=0) hi)
  have hr:(toArc (A.getD (W.getD i 0).toNat (0,0,[],[]))).right:=of_decide_eq_true (hA _ (getD_mem2 (by omega)))
  have h3:=step_in hr b i (nowF A W b s i)
  rw [fold_take hi]
  generalize (W.take i).foldl (legStep A e l) (0,0)=o at *
  have h4:=bnd_in (A.getD (W.getD i 0).toNat (0,0,[],[])) (f:=e+o.1) (t:=l+o.2) (u:=nowF A W b s i) (by omega) (by omega) (by omega)
  have h5:=low_bd hr ((e+o.1) / 60).toNat (hoursN (e+o.1) (l+o.2))
  have h6:0≤(bndF (A.getD (W.getD i 0).toNat (0,0,[],[])) (e+o.1) (l+o.2)).1:=h5.1
  show 0≤o.1+_∧o.1+_≤nowF A W b s i+_ - s∧nowF A W b s i+_ - s≤o.2+_
  omega
theorem leg_yes {w:DWorld} {f t:Int} {x:DWin} (h:(LegF w f t x).2=true):(rightP w=true∧((0≤f∧f < w.1)∧0≤t∧t < w.1)∧((0≤x.1∧x.1≤1048576)∧0≤x.2∧x.2≤1048576)∧x.1≤x.2)∧LegF w f t x=legF w f t x:=by
 unfold LegF at h ⊢
 split at h
 ·rename_i c
  rw [if_pos c]
  exact ⟨c,rfl⟩
 ·cases h
theorem leg_no {w:DWorld} {f t:Int} {x:DWin} (h:(LegF w f t x).2=false):(LegF w f t x).1=(0,0):=by
 unfold LegF at h ⊢
 split
 ·rename_i c
  rw [if_pos c] at h
  unfold legF at h ⊢
  split
  ·rfl
  ·rename_i c2
   rw [if_neg c2] at h
   have:=of_decide_eq_false h
   rw [Decidable.not_not.1 this]
   rfl
 ·rfl
theorem leg_same {w:DWorld} {f:Int} {x:DWin}:(LegF w f f x).1=(0,0):=by
 unfold LegF
 split
 ·unfold legF;rw [if_pos rfl]
 ·rfl
end T
end Go.Proofs.YtecdcopihghnaaaGreat
end
section
namespace Go.Proofs.YtecdcopihghnaaaGreat
set_option linter.unusedVariables false
set_option linter.unusedSimpArgs false
open Go.RowKit Go.IntWalk
namespace T
def entRoads:Ent:=⟨7,.cons (.st (.cons (.int .i64) (.cons (.sl (.st (.cons (.int .i64) (.cons (.int .i64) (.cons (.sl (.int .i64)) (.sl (.int .i64))))))) (.cons (.sl (.st (.cons (.int .i64) (.cons (.int .i64) (.cons (.int .i64) (.cons (.int .i64) (.cons (.int .i64) (.cons (.int .i64) (.cons (.int .i64) (.cons (.int .i64) (.int .i64))))))))))) (.cons (.sl (.st (.cons (.int .i64) (.cons (.int .i64) (.cons (.int .i64) (.cons (.int .i64) (.cons (.int .i64) (.cons (.int .i64) (.cons (.int .i64) (.cons (.int .i64) (.cons (.int .i64) (.int .i64)))))))))))) (.cons (.sl (.st (.cons (.int .i64) (.cons (.int .i64) .bool)))) (.st (.cons (.int .i64) (.cons (.int .i64) (.int .i64)))))))))) (.cons (.int .i64) (.cons (.int .i64) (.cons (.st (.cons (.int .i64) (.int .i64))) (.cons (.int .u16) (.cons (.sl (.int .u16)) .nil))))),.bool,false,none,fun _=>True,fun _=>true⟩
def csRoads:List Ent:=[entSmall20,entFew20,entOf20,entLeg,entEarly,entWay] theorem hcsRoads (f:FuncId):findEnt csRoads f=findEnt [entSmall20,entFew20,entOf20,entLeg,entEarly,entWay] f:=rfl
set_option maxHeartbeats 4000000 in
theorem conRoads:Con Tryz.prog entRoads:=by
 refine con_is (C:=csRoads) x7 (by kernel_rfl) (by simp [csRoads,conSmall20,conFew20,conOf20,conLeg,conEarly,conWay]) fun x _ hf=>?_
 obtain ⟨⟨(N:Int),(A:List DArc),(C:List DCar),(Q:List DReq),(R:List DPair),(S1:Int),(S2:Int),(S3:Int)⟩,(f:Int),(t:Int),⟨(e:Int),(l:Int)⟩,(z:Int),(b:List Int),_⟩:=x
 have hz:0≤z∧z≤65535:=hf.2.2.2.2.1
 have hb:Within 0 65535 b:=fun y hy=>hf.2.2.2.2.2.1.2 y hy
 dsimp only [entRoads,x7]
 cases h1:few20 (N,A,C,Q,R,S1,S2,S3) []
 ·simp only [↓hcsRoads,entSmall20,entFew20,entOf20,entLeg,entEarly,entWay,undef,h1,go_sem,Nat.reduceAdd,Nat.reduceSub,Nat.reduceMul,Nat.reduceLT,Nat.reduceLeDiff,Nat.reduceEqDiff,Nat.reduceBEq,Nat.reduceBNe,List.reduceReplicate,reduceIte,reduceCtorEq,↓reduceIte]
  try simp only [h1,td,reduceCtorEq]
 cases hl:(LegF (N,A,C,Q,R,S1,S2,S3) f t (e,l)).2
 ·have hL:LegF (N,A,C,Q,R,S1,S2,S3) f t (e,l)=((0,0),false):=Prod.ext (leg_no hl) hl
  simp only [↓hcsRoads,entSmall20,entFew20,entOf20,entLeg,entEarly,entWay,undef,h1,hL,go_sem,Nat.reduceAdd,Nat.reduceSub,Nat.reduceMul,Nat.reduceLT,Nat.reduceLeDiff,Nat.reduceEqDiff,Nat.reduceBEq,Nat.reduceBNe,List.reduceReplicate,reduceIte,reduceCtorEq,↓reduceIte]
  try simp only [h1,hL,td,reduceCtorEq]
 by_cases hft:f=t
 ·subst hft
  have hL:LegF (N,A,C,Q,R,S1,S2,S3) f f (e,l)=((0,0),true):=Prod.ext leg_same hl
  simp only [↓hcsRoads,entSmall20,entFew20,entOf20,entLeg,entEarly,entWay,undef,h1,hL,go_sem,Nat.reduceAdd,Nat.reduceSub,Nat.reduceMul,Nat.reduceLT,Nat.reduceLeDiff,Nat.reduceEqDiff,Nat.reduceBEq,Nat.reduceBNe,List.reduceReplicate,reduceIte,reduceCtorEq,↓reduceIte]
  try simp only [h1,hL,td,reduceCtorEq]
 obtain ⟨⟨r1,⟨⟨r2,r3⟩,r4,r5⟩,⟨⟨r6,r7⟩,r8,r9⟩,r10⟩,hle⟩:=leg_yes hl
 dsimp only at r2 r3 r4 r5 r6 r7 r8 r9 r10
 have hR:=(rightP_iff.1 r1).1
 dsimp only at hR
 have hwl:=legWay_len r1 f t (e,l)
 have hwin:∀ i ∈ legWay (N,A,C,Q,R,S1,S2,S3) f t (e,l),0≤i∧i < A.length:=wayF_in
 have hA:∀ a ∈ A,(toArc a).rightB=true:=fun a ha=>((rightR_n hR).2.2.2 a ha).1
 have hbd:=leg_bd r1 f t (e,l)
 have hE:earlyF N A f e true=((earlyF N A f e true).1,0,()):=by
  unfold earlyF
  rw [if_neg (by rw [hR,decide_eq_true r2,decide_eq_true r3,show timeB e=true from decide_eq_true ⟨r6,r7⟩];decide)]
 have hEl:(earlyF N A f e true).1.length≤100000:=Nat.le_trans (earlyLen hR f e true) (by decide)
 have hW:wayF (earlyF N A f e true).1 A t=legWay (N,A,C,Q,R,S1,S2,S3) f t (e,l):=rfl
 rw [hle] at hl
 unfold legF at hle hl
 rw [if_neg hft] at hle hl
 have hne:=of_decide_eq_true hl
 rw [decide_eq_true hne] at hle
 generalize legWay (N,A,C,Q,R,S1,S2,S3) f t (e,l)=W at *
 generalize (earlyF N A f e true).1=E at *
 obtain ⟨s,hs⟩:∃ s,e+z % (l - e+1)=s:=⟨_,rfl⟩
 have hs1:e≤s∧s≤l:=by
  have:=Int.emod_nonneg z (b:=l - e+1) (by omega)
  have:=Int.emod_lt_of_pos z (b:=l - e+1) (by omega)
  omega
 have hin:=now_in hA hwin b r6 hs1.1 hs1.2
 have f1:IntKind.i64.wrap (l - e)=l - e:=i64_in _ (by omega)
 have f2:IntKind.i64.wrap (l - e+1)=l - e+1:=i64_in _ (by omega)
 have f3:IntKind.i64.wrap z=z:=i64_in _ (by omega)
 have f4:z.tmod (l - e+1)=z % (l - e+1):=Int.tmod_eq_emod_of_nonneg (by omega)
 have f5:IntKind.i64.wrap s=s:=i64_in _ (by omega)
 have f6:¬ l - e+1=0:=by omega
 have hWl:¬ (W.length:Int)=0:=by
  have:W.length≠0:=fun q=>hne (List.eq_nil_of_length_eq_zero q)
  omega
 dsimp only at hle
 have hend:=hin W.length (Nat.le_refl _)
 have hbe:=hbd W.length
 rw [List.take_length] at hend hbe
 dsimp only at hbe
 obtain ⟨⟨lo,hi⟩,hlh⟩:∃ X:DLeg,W.foldl (legStep A e l) (0,0)=X:=⟨_,rfl⟩
 rw [hlh] at hend hle hbe
 dsimp only at hend hbe
 simp only [↓hcsRoads,entSmall20,entFew20,entOf20,entLeg,entEarly,entWay,undef,h1,hle,hft,hE,hEl,hW,f1,f2,f3,f4,f5,f6,hs,hWl,go_sem,Nat.reduceAdd,Nat.reduceSub,Nat.reduceMul,Nat.reduceLT,Nat.reduceLeDiff,Nat.reduceEqDiff,Nat.reduceBEq,Nat.reduceBNe,List.reduceReplicate,reduceIte,reduceCtorEq,↓reduceIte]
 try simp only [h1,hle,hft,hE,hEl,hW,f1,f2,f3,f4,f5,f6,hs,hWl,td,reduceCtorEq]
 refine XW_for 1000 x7_0d [0,1,17] Nat (fun j=>[(21,.val (.int .i64) (j:Int)),(20,.val (.int .i64) (nowF A W b s j))]) (fun _=>[]) (fun j=>j≤W.length) (fun j=>W.length - j) 0 ?_ ?_ ?_
 ·dsimp only [x7_0d]
  simp only [go_sem,Nat.reduceAdd,Nat.reduceSub,Nat.reduceMul,Nat.reduceLT,Nat.reduceLeDiff,Nat.reduceEqDiff,Nat.reduceBEq,Nat.reduceBNe,List.reduceReplicate,reduceIte,reduceCtorEq,↓reduceIte]
  exact ⟨rfl,rfl⟩
 ·exact Nat.zero_le _
 intro j hj
 have hjn:=hin j hj
 have hjb:=hbd j
 dsimp only at hjn hjb
 have hu:0≤nowF A W b s j∧nowF A W b s j≤3000000∧nowF A W b s j - s≤3000000:=by omega
 have hu2:IntKind.i64.wrap (nowF A W b s j - s)=nowF A W b s j - s:=i64_in _ (by omega)
 have hst:nowF A W b s (j+1)=nowF A W b s j+stepN (A.getD (W.getD j 0).toNat (0,0,[],[])) b j (nowF A W b s j):=rfl
 dsimp only [x7_0,x7_0d]
 by_cases hj':j < W.length
 ·have w2:IntKind.i64.wrap ((j:Int)+1)=((j+1:Nat):Int):=i64_in _ (by omega)
  obtain ⟨a1,a2⟩:=hwin _ (getD_mem2 (d:=0) hj')
  have hr:(toArc (A.getD (W.getD j 0).toNat (0,0,[],[]))).right:=of_decide_eq_true (hA _ (getD_mem2 (by omega)))
  have hLl:(A.getD (W.getD j 0).toNat (0,0,[],[])).2.2.1.length=24:=hr.2.2.1
  have hHl:(A.getD (W.getD j 0).toNat (0,0,[],[])).2.2.2.length=24:=hr.2.2.2.1
  have hsi:=step_in hr b j (nowF A W b s j)
  have hbj:=hb.getD (Int.le_refl _) (by decide) j
  have hsd:stepN (A.getD (W.getD j 0).toNat (0,0,[],[])) b j (nowF A W b s j)=(A.getD (W.getD j 0).toNat (0,0,[],[])).2.2.1.getD (hourN (nowF A W b s j)) 0+(if j < b.length then b.getD j 0 % ((A.getD (W.getD j 0).toNat (0,0,[],[])).2.2.2.getD (hourN (nowF A W b s j)) 0 - (A.getD (W.getD j 0).toNat (0,0,[],[])).2.2.1.getD (hourN (nowF A W b s j)) 0+1) else 0):=rfl
  obtain ⟨p,hp⟩:∃ p:Nat,nowF A W b s j / 60=p:=⟨(nowF A W b s j / 60).toNat,by omega⟩
  have hho:hourN (nowF A W b s j)=p % 24:=by unfold hourN;rw [hp];rfl
  have e1:IntKind.i64.wrap ((nowF A W b s j).tdiv 60)=(p:Int):=by
   rw [Int.tdiv_eq_ediv_of_nonneg hu.1,hp]
   exact i64_in _ (by omega)
  have tm:(p:Int).tmod 24=((p % 24:Nat):Int):=by
   rw [Int.tmod_eq_emod_of_nonneg (Int.natCast_nonneg p)]
   rfl
  have hm:p % 24 < 24:=Nat.mod_lt _ (by omega)
  have n60:¬ (60:Int)=0:=by decide
  have n24:¬ (24:Int)=0:=by decide
  rw [hho] at hsi hsd
  obtain ⟨lw,hlw⟩:∃ v,(A.getD (W.getD j 0).toNat (0,0,[],[])).2.2.1.getD (p % 24) 0=v:=⟨_,rfl⟩
  obtain ⟨hg,hhg⟩:∃ v,(A.getD (W.getD j 0).toNat (0,0,[],[])).2.2.2.getD (p % 24) 0=v:=⟨_,rfl⟩
  rw [hlw,hhg] at hsi hsd
  by_cases hjb':j < b.length
  ·rw [if_pos hjb'] at hsd
   have g1:IntKind.i64.wrap (hg - lw)=hg - lw:=i64_in _ (by omega)
   have g2:IntKind.i64.wrap (hg - lw+1)=hg - lw+1:=i64_in _ (by omega)
   have g3:IntKind.i64.wrap (b.getD j 0)=b.getD j 0:=i64_in _ (by omega)
   have g4:(b.getD j 0).tmod (hg - lw+1)=b.getD j 0 % (hg - lw+1):=Int.tmod_eq_emod_of_nonneg (by omega)
   have g5:IntKind.i64.wrap (lw+b.getD j 0 % (hg - lw+1))=lw+b.getD j 0 % (hg - lw+1):=i64_in _ (by omega)
   have g6:¬ hg - lw+1=0:=by omega
   have g7:IntKind.i64.wrap (nowF A W b s j+(lw+b.getD j 0 % (hg - lw+1)))=nowF A W b s (j+1):=(i64_in _ (by omega)).trans (by omega)
   simp only [↓hcsRoads,entSmall20,entFew20,entOf20,entLeg,entEarly,entWay,undef,hj',hjb',a1,a2,w2,hLl,hHl,e1,tm,hm,n60,n24,hlw,hhg,g1,g2,g3,g4,g5,g6,g7,Int.toNat_natCast,go_sem,Nat.reduceAdd,Nat.reduceSub,Nat.reduceMul,Nat.reduceLT,Nat.reduceLeDiff,Nat.reduceEqDiff,Nat.reduceBEq,Nat.reduceBNe,List.reduceReplicate,reduceIte,reduceCtorEq,↓reduceIte]
   try simp only [hj',hjb',a1,a2,w2,hLl,hHl,e1,tm,hm,n60,n24,hlw,hhg,g1,g2,g3,g4,g5,g6,g7,Int.toNat_natCast,td,reduceCtorEq]
   exact ⟨j+1,by omega,hj',rfl,rfl⟩
  ·rw [if_neg hjb'] at hsd
   have g7:IntKind.i64.wrap (nowF A W b s j+lw)=nowF A W b s (j+1):=(i64_in _ (by omega)).trans (by omega)
   simp only [↓hcsRoads,entSmall20,entFew20,entOf20,entLeg,entEarly,entWay,undef,hj',hjb',a1,a2,w2,hLl,hHl,e1,tm,hm,n60,n24,hlw,hhg,g7,Int.toNat_natCast,go_sem,Nat.reduceAdd,Nat.reduceSub,Nat.reduceMul,Nat.reduceLT,Nat.reduceLeDiff,Nat.reduceEqDiff,Nat.reduceBEq,Nat.reduceBNe,List.reduceReplicate,reduceIte,reduceCtorEq,↓reduceIte]
   try simp only [hj',hjb',a1,a2,w2,hLl,hHl,e1,tm,hm,n60,n24,hlw,hhg,g7,Int.toNat_natCast,td,reduceCtorEq]
   exact ⟨j+1,by omega,hj',rfl,rfl⟩
 ·obtain rfl:j=W.length:=by omega
  have q1:=hend.2.1
  have q2:=hend.2.2
  simp only [↓hcsRoads,entSmall20,entFew20,entOf20,entLeg,entEarly,entWay,undef,hj',hu2,q1,q2,go_sem,Nat.reduceAdd,Nat.reduceSub,Nat.reduceMul,Nat.reduceLT,Nat.reduceLeDiff,Nat.reduceEqDiff,Nat.reduceBEq,Nat.reduceBNe,List.reduceReplicate,reduceIte,reduceCtorEq,↓reduceIte]
  try simp only [hj',hu2,q1,q2,td,reduceCtorEq]
end T
end Go.Proofs.YtecdcopihghnaaaGreat
end
