/- Parts of the proof of the law; no condition. -/
import Derived.Test.YtpocfbfmjippnaaGreatH16
set_option linter.all false
section
namespace Go.Proofs.YtpocfbfmjippnaaGreat
open Go.RowKit Go.IntWalk
namespace T
abbrev DPlan:=Int×List DStop×List DLeg×List Int
def noPlan:DPlan:=(0,[],[],[])
def makeF (w:DWorld) (c:Int) (ss:List DStop):DPlan×Int:=
 if (begF w c ss).2≠0 then (noPlan,(begF w c ss).2) else if (guardF (begF w c ss).1).2≠0 then (noPlan,20)
 else if restsF w (begF w c ss).1 (guardF (begF w c ss).1).1=false then (noPlan,29) else ((c,ss,(begF w c ss).1.2.1,(guardF (begF w c ss).1).1),0)
theorem makeF_eq (w:DWorld) (c:Int) (ss:List DStop):makeF w c ss=if (begF w c ss).2≠0 then (noPlan,(begF w c ss).2) else if (guardF (begF w c ss).1).2≠0 then (noPlan,20)
 else if restsF w (begF w c ss).1 (guardF (begF w c ss).1).1=false then (noPlan,29) else ((c,ss,(begF w c ss).1.2.1,(guardF (begF w c ss).1).1),0):=rfl
def okC (w:DWorld) (p:DPlan) (c:DChain):Bool:=decide (p.2.2.1=c.2.1)&&(decide (p.2.2.2.length=c.1.length)&&(allIn 1048576 p.2.2.2&&rightC c))
def checkP (w:DWorld) (p:DPlan):Int:=
 if (begF w p.1 p.2.1).2≠0 then (begF w p.1 p.2.1).2 else if okC w p (begF w p.1 p.2.1).1=false then 23
 else if keeps20 (begF w p.1 p.2.1).1 p.2.2.2=false then 20 else if restsF w (begF w p.1 p.2.1).1 p.2.2.2=false then 29 else 0
def lastI (l:List Int):Int:=l.getD (l.length-1) 0
def endP (w:DWorld) (p:DPlan):Int×Int:=if checkP w p≠0 then (0,checkP w p) else (lastI (worstF (chainF w p.1 p.2.1).1 p.2.2.2).1,0)
theorem guard_fits {c:DChain} (h:(guardF c).2=0):fitsG c (guardF c).1=true:=by
 unfold guardF at h⊢;by_cases h1:rightC c=false
 ·rw[if_pos h1] at h;cases h
 ·rw[if_neg h1] at h⊢;by_cases h2:c.2.2.any (lateR c)=true
  ·rw[if_pos h2] at h;cases h
  ·rw[if_neg h2] at h⊢;by_cases h3:inTime c (playF (gsF c c.1.length) (highsF c.2.1))=false
   ·rw[if_pos h3] at h;cases h
   ·rw[if_neg h3];exact gs_fits (by simpa using h1) (late_none h2)
def entMk:Ent:=⟨27,.cons Z21 (.cons Z1 (.cons Z15 .nil)),.cons Z22 (.cons Z1 .nil),true,none,fun x=>List.length (α:=DStop) x.2.2.1≤24,fun x=>((makeF x.1 x.2.1 x.2.2.1).1,(makeF x.1 x.2.1 x.2.2.1).2,())⟩
def csMk:List Ent:=[entBeg,entGrd,entRst,entClS] theorem hcsMk (f:FuncId):findEnt csMk f=findEnt [entBeg,entGrd,entRst,entClS] f:=rfl
theorem conMk:Con Tryz.prog entMk:=by
 refine con_is (C:=csMk) x27 (by kernel_rfl) (by simp[csMk,conBeg,conGrd,conRst,conClS]) fun x hx hf=>?_;obtain ⟨⟨(N:Int),(A:List DArc),(C:List DCar),(Q:List DReq),(P:List DPair),(S1:Int),(S2:Int),(S3:Int)⟩,(c:Int),(ss:List DStop),_⟩:=x;replace hx:ss.length≤24:=hx;have hx6:ss.length≤1000000:=by omega
 have hz:=makeF_eq (N,A,C,Q,P,S1,S2,S3) c ss;generalize hb:begF (N,A,C,Q,P,S1,S2,S3) c ss=be at hz;obtain ⟨ch,e⟩:=be;dsimp only at hz;by_cases he:e=0
 ·subst he;rw[if_neg (by simp)] at hz;generalize hg:guardF ch=gu at hz;obtain ⟨gd,e⟩:=gu;dsimp only at hz;by_cases he:e=0
  ·subst he;have hfit:fitsG ch gd=true:=by have:=guard_fits (c:=ch) (by rw[hg]);rwa [hg] at this
   rw[if_neg (by simp)] at hz;obtain ⟨W,L,R⟩:=ch;cases hr:restsF (N,A,C,Q,P,S1,S2,S3) (W,L,R) gd with
   |true=>
    rw[if_neg (by rw[hr];simp)] at hz;dsimp only[entMk,x27];simp only[↓hcsMk,entBeg,entGrd,entRst,entClS,undef,hx,hx6,hb,hg,hfit,hr,hz,go_sem];try simp only[hx,hx6,hb,hg,hfit,hr,hz,td,reduceCtorEq]
    all_goals rfl
   |false=>
    rw[if_pos hr] at hz;dsimp only[entMk,x27];simp only[↓hcsMk,entBeg,entGrd,entRst,entClS,undef,hx,hb,hg,hfit,hr,hz,go_sem];try simp only[hx,hb,hg,hfit,hr,hz,td,reduceCtorEq]
    all_goals rfl
  ·rw[if_pos he] at hz;obtain ⟨W,L,R⟩:=ch;dsimp only[entMk,x27];simp only[↓hcsMk,entBeg,entGrd,entRst,entClS,undef,hx,hb,hg,he,hz,go_sem];try simp only[hx,hb,hg,he,hz,td,reduceCtorEq]
   all_goals rfl
 ·rw[if_pos he] at hz;obtain ⟨W,L,R⟩:=ch;dsimp only[entMk,x27];simp only[↓hcsMk,entBeg,entGrd,entRst,entClS,undef,hx,hb,he,hz,go_sem];try simp only[hx,hb,he,hz,td,reduceCtorEq]
  all_goals rfl
theorem checkP_eq (w:DWorld) (p:DPlan):checkP w p=if (begF w p.1 p.2.1).2≠0 then (begF w p.1 p.2.1).2 else if okC w p (begF w p.1 p.2.1).1=false then 23
 else if keeps20 (begF w p.1 p.2.1).1 p.2.2.2=false then 20 else if restsF w (begF w p.1 p.2.1).1 p.2.2.2=false then 29 else 0:=rfl
theorem allIn_within {m:Int} {l:List Int}:allIn m l=true↔Within 0 m l:=by
 unfold allIn Within;simp only[List.all_eq_true,decide_eq_true_eq]
theorem okC_fits {w:DWorld} {p:DPlan} {c:DChain} (h:okC w p c=true):rightC c=true∧fitsG c p.2.2.2=true:=by
 unfold okC at h;simp only[Bool.and_eq_true,decide_eq_true_eq] at h;obtain ⟨_,h2,h3,h4⟩:=h;exact ⟨h4,fitsG_iff.2 ⟨h4,h2,fun x hx=>by have:=allIn_within.1 h3 x hx;omega⟩⟩
def entCkP:Ent:=⟨26,.cons Z21 (.cons Z22 .nil),(.int .i64),false,none,fun x=>List.length (α:=DStop) (x.2.1:DPlan).2.1≤24,fun x=>checkP x.1 x.2.1⟩
def csCkP:List Ent:=[entBeg,entEqLg,entPin,entRctR,entKps,entRst] theorem hcsCkP (f:FuncId):findEnt csCkP f=findEnt [entBeg,entEqLg,entPin,entRctR,entKps,entRst] f:=rfl
theorem conCkP:Con Tryz.prog entCkP:=by
 refine con_is (C:=csCkP) x26 (by kernel_rfl) (by simp[csCkP,conBeg,conEqLg,conPin,conRctR,conKps,conRst]) fun x hx hf=>?_;obtain ⟨⟨(N:Int),(A:List DArc),(C:List DCar),(Q:List DReq),(P:List DPair),(S1:Int),(S2:Int),(S3:Int)⟩,⟨(c:Int),(ss:List DStop),(Lg:List DLeg),(Lv:List Int)⟩,_⟩:=x;replace hx:ss.length≤24:=hx;have hz:=checkP_eq (N,A,C,Q,P,S1,S2,S3) (c,ss,Lg,Lv);dsimp only at hz;generalize hb:begF (N,A,C,Q,P,S1,S2,S3) c ss=be at hz;obtain ⟨ch,e⟩:=be;dsimp only at hz;obtain ⟨W,L,R⟩:=ch;by_cases he:e=0
 ·subst he;rw[if_neg (by simp)] at hz;have hok:okC (N,A,C,Q,P,S1,S2,S3) (c,ss,Lg,Lv) (W,L,R)=(decide (Lg=L)&&(decide (Lv.length=W.length)&&(allIn 1048576 Lv&&rightC (W,L,R)))):=rfl;have hfit:=fun h=>okC_fits (w:=(N,A,C,Q,P,S1,S2,S3)) (p:=(c,ss,Lg,Lv)) (c:=(W,L,R)) h;dsimp only at hfit;cases hc:okC (N,A,C,Q,P,S1,S2,S3) (c,ss,Lg,Lv) (W,L,R) with
  |false=>
   rw[hc] at hok;rw[if_pos hc] at hz;dsimp only[entCkP,x26];simp only[↓hcsCkP,entBeg,entEqLg,entPin,entRctR,entKps,entRst,undef,hx,hb,hz,go_sem];try simp only[hx,hb,hz,td,reduceCtorEq]
   intro h;exfalso;rw[decide_eq_true h.1.1.1,decide_eq_true h.1.1.2,h.1.2,h.2] at hok;exact Bool.noConfusion hok
  |true=>
   rw[hc] at hok;obtain ⟨hr,hf2⟩:=hfit hc;rw[if_neg (by rw[hc];simp)] at hz;have hok2:=hok.symm;simp only[Bool.and_eq_true,decide_eq_true_eq] at hok2;obtain ⟨o1,o2,o3,o4⟩:=hok2;subst o1;have o2i:(Lv.length:Int)=(W.length:Int):=by omega
   cases hk:keeps20 (W,Lg,R) Lv with
   |false=>
    rw[if_pos hk] at hz;dsimp only[entCkP,x26];simp only[↓hcsCkP,entBeg,entEqLg,entPin,entRctR,entKps,entRst,undef,hx,hb,o2,o2i,o3,hr,hf2,hk,hz,go_sem];try simp only[hx,hb,o2,o2i,o3,hr,hf2,hk,hz,td,reduceCtorEq]
   |true=>
    rw[if_neg (by rw[hk];simp)] at hz;cases hs:restsF (N,A,C,Q,P,S1,S2,S3) (W,Lg,R) Lv with
    |false=>
     rw[if_pos hs] at hz;dsimp only[entCkP,x26];simp only[↓hcsCkP,entBeg,entEqLg,entPin,entRctR,entKps,entRst,undef,hx,hb,o2,o2i,o3,hr,hf2,hk,hs,hz,go_sem];try simp only[hx,hb,o2,o2i,o3,hr,hf2,hk,hs,hz,td,reduceCtorEq]
    |true=>
     rw[if_neg (by rw[hs];simp)] at hz;dsimp only[entCkP,x26];simp only[↓hcsCkP,entBeg,entEqLg,entPin,entRctR,entKps,entRst,undef,hx,hb,o2,o2i,o3,hr,hf2,hk,hs,hz,go_sem];try simp only[hx,hb,o2,o2i,o3,hr,hf2,hk,hs,hz,td,reduceCtorEq]
 ·rw[if_pos he] at hz;dsimp only[entCkP,x26];simp only[↓hcsCkP,entBeg,entEqLg,entPin,entRctR,entKps,entRst,undef,hx,hb,he,hz,go_sem];try simp only[hx,hb,he,hz,td,reduceCtorEq]
  all_goals rfl
theorem beg_ok {w:DWorld} {c:Int} {ss:List DStop} (h:(begF w c ss).2=0):begF w c ss=chainF w c ss:=by
 unfold begF at h⊢;by_cases h1:asksF w c ss=false
 ·rw[if_pos h1] at h;cases h
 ·rw[if_neg h1] at h⊢;by_cases h2:(fitsF (carLoad (carAt w c)) ss w.2.2.2.1).2≠0
  ·rw[if_pos h2] at h;cases h
  ·rw[if_neg h2] at h⊢;by_cases h3:togF w.2.2.2.2.1 ss w.2.2.2.1=false
   ·rw[if_pos h3] at h;cases h
   ·rw[if_neg h3]
theorem check_ok {w:DWorld} {p:DPlan} (h:checkP w p=0):begF w p.1 p.2.1=chainF w p.1 p.2.1∧(chainF w p.1 p.2.1).2=0∧okC w p (chainF w p.1 p.2.1).1=true∧keeps20 (chainF w p.1 p.2.1).1 p.2.2.2=true∧restsF w (chainF w p.1 p.2.1).1 p.2.2.2=true:=by
 unfold checkP at h;by_cases h1:(begF w p.1 p.2.1).2≠0
 ·rw[if_pos h1] at h;exact absurd h h1
 ·rw[if_neg h1] at h;have hb:=beg_ok (Decidable.not_not.1 h1);by_cases h2:okC w p (begF w p.1 p.2.1).1=false
  ·rw[if_pos h2] at h;cases h
  ·rw[if_neg h2] at h;by_cases h3:keeps20 (begF w p.1 p.2.1).1 p.2.2.2=false
   ·rw[if_pos h3] at h;cases h
   ·rw[if_neg h3] at h;by_cases h4:restsF w (begF w p.1 p.2.1).1 p.2.2.2=false
    ·rw[if_pos h4] at h;cases h
    ·rw[hb] at h1 h2 h3 h4;exact ⟨hb,Decidable.not_not.1 h1,by simpa using h2,by simpa using h3,by simpa using h4⟩
theorem endP_eq (w:DWorld) (p:DPlan):endP w p=if checkP w p≠0 then (0,checkP w p) else (lastI (worstF (chainF w p.1 p.2.1).1 p.2.2.2).1,0):=rfl
def entEnd:Ent:=⟨48,.cons Z21 (.cons Z22 .nil),.cons Z1 (.cons Z1 .nil),true,none,fun x=>List.length (α:=DStop) (x.2.1:DPlan).2.1≤24,fun x=>((endP x.1 x.2.1).1,(endP x.1 x.2.1).2,())⟩
def csEnd:List Ent:=[entCkP,entChn,entWorst] theorem hcsEnd (f:FuncId):findEnt csEnd f=findEnt [entCkP,entChn,entWorst] f:=rfl
theorem conEnd:Con Tryz.prog entEnd:=by
 refine con_is (C:=csEnd) x48 (by kernel_rfl) (by simp[csEnd,conCkP,conChn,conWorst]) fun x hx hf=>?_;obtain ⟨⟨(N:Int),(A:List DArc),(C:List DCar),(Q:List DReq),(P:List DPair),(S1:Int),(S2:Int),(S3:Int)⟩,⟨(c:Int),(ss:List DStop),(Lg:List DLeg),(Lv:List Int)⟩,_⟩:=x;replace hx:ss.length≤24:=hx;have hz:=endP_eq (N,A,C,Q,P,S1,S2,S3) (c,ss,Lg,Lv);have hck:=fun h=>check_ok (w:=(N,A,C,Q,P,S1,S2,S3)) (p:=(c,ss,Lg,Lv)) h;dsimp only at hz hck;generalize he:checkP (N,A,C,Q,P,S1,S2,S3) (c,ss,Lg,Lv)=e at hz hck;by_cases h0:e=0
 ·subst h0;rw[if_neg (by simp)] at hz;obtain ⟨_,_,hok,_,_⟩:=hck rfl;generalize hch:chainF (N,A,C,Q,P,S1,S2,S3) c ss=ch at hz hok;obtain ⟨⟨W,L,R⟩,e2⟩:=ch;have hfit:=(okC_fits hok).2;dsimp only at hfit hz;have hw:worstF (W,L,R) Lv=(playF Lv (highsF L),0):=by unfold worstF;rw[if_pos hfit]
  have hpl:(playF Lv (highsF L)).length=L.length+1:=by rw[playF_len,highs_len]
  have hlen:=(rightC_iff.1 (fitsG_iff.1 hfit).1).1;dsimp only at hlen;have w1:IntKind.i64.wrap (((L.length+1:Nat):Int)-1)=(L.length:Int):=(i64_in _ (by omega)).trans (by omega);rw[hw] at hz;unfold lastI at hz;dsimp only at hz;rw[hpl,Nat.add_sub_cancel] at hz;have hl0:L.length<L.length+1:=by omega
  dsimp only[entEnd,x48];simp only[↓hcsEnd,entCkP,entChn,entWorst,undef,hx,he,hch,hw,hpl,w1,hl0,go_sem];try simp only[hx,he,hch,hw,hpl,w1,hl0,td,reduceCtorEq]
  rw[hz]
 ·rw[if_pos h0] at hz;dsimp only[entEnd,x48];simp only[↓hcsEnd,entCkP,entChn,entWorst,undef,hx,he,h0,hz,go_sem];try simp only[hx,he,h0,hz,td,reduceCtorEq]
end T
end Go.Proofs.YtpocfbfmjippnaaGreat
end
