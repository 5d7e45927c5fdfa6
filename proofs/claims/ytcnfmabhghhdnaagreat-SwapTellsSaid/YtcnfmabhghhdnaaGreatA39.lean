/- Parts of the proof of the law; no condition. -/
import Derived.Test.YtcnfmabhghhdnaaGreatA29
import Derived.Test.YtcnfmabhghhdnaaGreatA44
import Derived.Test.YtcnfmabhghhdnaaGreatA45
set_option linter.all false
section
namespace Go.Proofs.YtcnfmabhghhdnaaGreat
open Go.RowKit Go.IntWalk
namespace T
def entKs20:Ent:=⟨112,.cons Z11 (.cons Z10 .nil),.bool,false,none,fun x=>rightC x.1=true,fun x=>keeps20 x.1 x.2.1⟩
def csKs2:List Ent:=[entLs19,entHs19,entRun16,entKp16] theorem hcsKs2 (f:FuncId):findEnt csKs2 f=findEnt [entLs19,entHs19,entRun16,entKp16] f:=rfl
theorem conKs20:Con Tryz.prog entKs20:=by
 refine con_is (C:=csKs2) x112 (by kernel_rfl) (by simp[csKs2,conLs19,conHs19,conRun16,conKp16]) fun x hx hf=>?_;obtain ⟨⟨(W:List DWin),(L:List DLeg),(R:List DRide)⟩,(g:List Int),_⟩:=x;replace hx:rightC (W,L,R)=true:=hx;have hlen:=(rightC_iff.1 hx).1;dsimp only at hlen;have hLl:L.length≤1000:=by omega
 have hlo:(lowsF L).length=L.length:=lows_len L;have hhi:(highsF L).length=L.length:=highs_len L;have hLi:(L.length:Int)≤1000:=by omega
 have e0:cutF (W,L,R) g (lowsF L) (highsF L) 0=keepsF (W,L,R) (rnF (W,L,R) g (highsF L)).1:=by unfold cutF;rw[List.take_zero,List.drop_zero,List.nil_append]
 have e1:cutF (W,L,R) g (lowsF L) (highsF L) L.length=keepsF (W,L,R) (rnF (W,L,R) g (lowsF L)).1:=by unfold cutF;rw[List.take_of_length_le (by omega),List.drop_of_length_le (by omega),List.append_nil]
 dsimp only[entKs20,x112,Z11,Z3,Za,Zb,Zc,Zd,Zg];simp only[↓hcsKs2,entLs19,entHs19,entRun16,entKp16,undef,hLl,hlo,hhi,go_sem];try simp only[hLl,hlo,hhi,td,reduceCtorEq]
 have hz:keeps20 (W,L,R) g=((keepsF (W,L,R) (rnF (W,L,R) g (highsF L)).1&&keepsF (W,L,R) (rnF (W,L,R) g (lowsF L)).1)&&R.all fun r=>cutF (W,L,R) g (lowsF L) (highsF L) r.1.toNat):=by rw[←e0,←e1];rfl
 refine ⟨fun h=>?_,fun h=>?_⟩
 ·rw[hz];rcases h with h|h
  ·rw[h,Bool.and_false];rfl
  ·rw[h];rfl
 rw[h.1,h.2,Bool.true_and,Bool.true_and] at hz;refine XW_for 1000 x112_0d [0] Nat (fun i=>[(11,.val Z1 (i:Int))]) (fun _=>[]) (fun i=>i≤R.length∧∀k,k<i→cutF (W,L,R) g (lowsF L) (highsF L) (R.getD k (0,0,0)).1.toNat=true) (fun i=>R.length-i) 0 ?_ ?_ ?_
 ·dsimp only[x112_0d];simp only[go_sem];try trivial
 ·exact ⟨Nat.zero_le _,fun k hk=>absurd hk (Nat.not_lt_zero _)⟩
 rintro i ⟨hi,hm⟩;by_cases hil:i<R.length
 ·have w2:IntKind.i64.wrap ((i:Int)+1)=((i+1:Nat):Int):=i64_in _ (by omega);have hrd:=right_ride hx (k:=i) hil;have hall:cutF (W,L,R) g (lowsF L) (highsF L) (R.getD i (0,0,0)).1.toNat=false→keeps20 (W,L,R) g=false:=fun h=>by
   rw[hz,List.all_eq_false];exact ⟨_,getD_mem2 (d:=(0,0,0)) hil,by rw[h];simp⟩
  dsimp only at hrd;generalize hrr:R.getD i (0,0,0)=rr at hrd hall;obtain ⟨r1,r2,r3⟩:=rr;dsimp only at hrd hall;obtain ⟨r1,rfl⟩:∃z:Nat,r1=z:=⟨r1.toNat,by omega⟩;rw[Int.toNat_natCast] at hall;have hr2:(r1:Int)≤(L.length:Int):=by omega
  have hr3:r1≤L.length:=by omega
  have ht:(highsF L).take L.length=highsF L:=List.take_of_length_le (by omega);dsimp only[x112_0,x112_0d,Z1,Z11,Z5,Z9,Za,Zb,Zc,Zd,Zf,Zg];simp only[↓hcsKs2,entLs19,entHs19,entRun16,entKp16,undef,hil,w2,hrr,hLl,hlo,hhi,hr2,hr3,ht,go_sem];try simp only[hil,w2,hrr,hLl,hlo,hhi,hr2,hr3,ht,td,reduceCtorEq]
  have l1:((lowsF L).take r1).length≤1000:=by rw[List.length_take];omega
  have l2:((highsF L).drop r1).length≤1000:=by rw[List.length_drop];omega
  refine ⟨⟨Int.le_refl _,by omega,Int.le_refl _,by omega⟩,fun h=>?_,fun h=>⟨i+1,by omega,⟨by omega,fun k hk=>?_⟩,rfl⟩⟩
  ·exact (hall h).symm
  ·rcases Nat.lt_or_ge k i with q|q
   ·exact hm k q
   ·rw[show k=i by omega,hrr];exact h
 ·obtain rfl:i=R.length:=by omega
  have hz2:keeps20 (W,L,R) g=true:=by
   rw[hz,List.all_eq_true];intro r hrm;obtain ⟨k,hk,rfl⟩:=List.getElem_of_mem hrm;have h1:=hm k hk;have:R.getD k (0,0,0)=R[k]:=by simp[List.getD,hk]
   rw[this] at h1;exact h1
  dsimp only[x112_0,x112_0d,Z1,Z11,Z5,Z9,Za,Zb,Zc,Zd,Zf,Zg];simp only[↓hcsKs2,entLs19,entHs19,entRun16,entKp16,undef,hil,hz2,go_sem];try simp only[hil,hz2,td,reduceCtorEq]
theorem begF_eq (w:DWorld) (c:Int) (ss:List DStop):begF w c ss=if asksF w c ss=false then (noChain,1) else if (fitsF (carLoad (carAt w c)) ss w.2.2.2.1).2≠0 then (noChain,27) else if togF w.2.2.2.2.1 ss w.2.2.2.1=false then (noChain,30) else chainF w c ss:=rfl
def entMkR:Ent:=⟨57,.cons Z24 (.cons Z1 (.cons Z12 .nil)),.cons Z13 (.cons Z1 .nil),true,none,fun _=>True,fun x=>((makeF x.1 x.2.1 x.2.2.1).1,(makeF x.1 x.2.1 x.2.2.1).2,())⟩
def csMkR:List Ent:=[entAs20,entRFits,entRTog,entChR,entGrd16,entWt20,entCk19] theorem hcsMkR (f:FuncId):findEnt csMkR f=findEnt [entAs20,entRFits,entRTog,entChR,entGrd16,entWt20,entCk19] f:=rfl
set_option maxHeartbeats 1000000 in
theorem conMkR:Con Tryz.prog entMkR:=by
 refine con_is (C:=csMkR) x57 (by kernel_rfl) (by simp[csMkR,conAs20,conRFits,conRTog,conChR,conGrd16,conWt20,conCk19]) fun x hx hf=>?_;obtain ⟨⟨(N:Int),(A:List DArc),(C:List DCar),(Q:List DReq),(P:List DPair),(S1:Int),(S2:Int),(S3:Int)⟩,(c:Int),(ss:List DStop),_⟩:=x;have hz:=makeF_eq (N,A,C,Q,P,S1,S2,S3) c ss;have hb:=begF_eq (N,A,C,Q,P,S1,S2,S3) c ss;cases ha:asksF (N,A,C,Q,P,S1,S2,S3) c ss with
 |false=>
  rw[if_pos ha] at hb;rw[hb] at hz;dsimp only at hz;rw[if_pos (by decide)] at hz;dsimp only[entMkR,x57,Z1,Z10,Z11,Z12,Z13,Z19,Z20,Z23,Z24,Z3,Z5,Z7,Z8,Za,Zb,Zc,Zd,Zf,Zg,Zi];simp only[↓hcsMkR,entAs20,entRFits,entRTog,entChR,entGrd16,entWt20,entCk19,undef,ha,hz,go_sem];try simp only[ha,hz,td,reduceCtorEq]
  all_goals rfl
 |true=>
  rw[if_neg (by rw[ha];simp)] at hb;obtain ⟨hw,hc,hss⟩:=asks_iff.1 ha;dsimp only at hc hss;have hL80:ss.length≤80:=hss.1.1;obtain ⟨c,rfl⟩:∃z:Nat,c=z:=⟨c.toNat,by omega⟩;have hcl:c<C.length:=by omega
  have hca:carAt (N,A,C,Q,P,S1,S2,S3) (c:Int)=C.getD c (0,0,0,0,0,0,0,0,0):=rfl;rw[hca] at hb;dsimp only at hb;have h16:((0:Nat)+ss.length)*16≤140737488355328:=by omega
  generalize hfe:fitsF (carLoad (C.getD c (0,0,0,0,0,0,0,0,0))) ss Q=fe at hb;obtain ⟨f1,f2⟩:=fe;dsimp only at hb;by_cases hf2:f2=0
  ·subst hf2;rw[if_neg (by simp)] at hb;cases ht:togF P ss Q with
   |false=>
    rw[if_pos ht] at hb;rw[hb] at hz;dsimp only at hz;rw[if_pos (by decide)] at hz;dsimp only[entMkR,x57,Z1,Z10,Z11,Z12,Z13,Z19,Z20,Z23,Z24,Z3,Z5,Z7,Z8,Za,Zb,Zc,Zd,Zf,Zg,Zi];simp only[↓hcsMkR,entAs20,entRFits,entRTog,entChR,entGrd16,entWt20,entCk19,undef,ha,hcl,hfe,ht,hz,go_sem];try simp only[ha,hcl,hfe,ht,hz,td,reduceCtorEq]
    all_goals rfl
   |true=>
    rw[if_neg (by rw[ht];simp)] at hb;generalize hch:chainF (N,A,C,Q,P,S1,S2,S3) (c:Int) ss=be at hb;rw[hb] at hz;obtain ⟨⟨W,L,R⟩,e⟩:=be;dsimp only at hz;by_cases he:e=0
    ·subst he;rw[if_neg (by simp)] at hz;generalize hg:guardF (W,L,R)=gu at hz;obtain ⟨gd,e⟩:=gu;dsimp only at hz;by_cases he:e=0
     ·subst he;have hfit:fitsG (W,L,R) gd=true:=by have:=guard_fits (c:=(W,L,R)) (by rw[hg]);rwa [hg] at this
      rw[if_neg (by simp)] at hz;have hrs:restsF (N,A,C,Q,P,S1,S2,S3) (W,L,R) gd=decide ((checkK (S1,S2,S3) L (waitsF (W,L,R) gd)).2=0):=rfl;rw[hrs] at hz;generalize hck:checkK (S1,S2,S3) L (waitsF (W,L,R) gd)=ck at hz;obtain ⟨k1,k2⟩:=ck;dsimp only at hz;by_cases hk:k2=0
      ·subst hk;rw[if_neg (by simp)] at hz;dsimp only[entMkR,x57,Z1,Z10,Z11,Z12,Z13,Z19,Z20,Z23,Z24,Z3,Z5,Z7,Z8,Za,Zb,Zc,Zd,Zf,Zg,Zi];simp only[↓hcsMkR,entAs20,entRFits,entRTog,entChR,entGrd16,entWt20,entCk19,undef,ha,hcl,hfe,ht,hch,hg,hfit,hck,h16,hz,go_sem];try simp only[ha,hcl,hfe,ht,hch,hg,hfit,hck,h16,hz,td,reduceCtorEq]
       all_goals rfl
      ·rw[if_pos (decide_eq_false hk)] at hz;dsimp only[entMkR,x57,Z1,Z10,Z11,Z12,Z13,Z19,Z20,Z23,Z24,Z3,Z5,Z7,Z8,Za,Zb,Zc,Zd,Zf,Zg,Zi];simp only[↓hcsMkR,entAs20,entRFits,entRTog,entChR,entGrd16,entWt20,entCk19,undef,ha,hcl,hfe,ht,hch,hg,hfit,hck,hk,hz,go_sem];try simp only[ha,hcl,hfe,ht,hch,hg,hfit,hck,hk,hz,td,reduceCtorEq]
       all_goals rfl
     ·rw[if_pos he] at hz;dsimp only[entMkR,x57,Z1,Z10,Z11,Z12,Z13,Z19,Z20,Z23,Z24,Z3,Z5,Z7,Z8,Za,Zb,Zc,Zd,Zf,Zg,Zi];simp only[↓hcsMkR,entAs20,entRFits,entRTog,entChR,entGrd16,entWt20,entCk19,undef,ha,hcl,hfe,ht,hch,hg,he,hz,go_sem];try simp only[ha,hcl,hfe,ht,hch,hg,he,hz,td,reduceCtorEq]
      all_goals rfl
    ·rw[if_pos he] at hz;dsimp only[entMkR,x57,Z1,Z10,Z11,Z12,Z13,Z19,Z20,Z23,Z24,Z3,Z5,Z7,Z8,Za,Zb,Zc,Zd,Zf,Zg,Zi];simp only[↓hcsMkR,entAs20,entRFits,entRTog,entChR,entGrd16,entWt20,entCk19,undef,ha,hcl,hfe,ht,hch,he,hz,go_sem];try simp only[ha,hcl,hfe,ht,hch,he,hz,td,reduceCtorEq]
     all_goals rfl
  ·rw[if_pos hf2] at hb;rw[hb] at hz;dsimp only at hz;rw[if_pos (by decide)] at hz;dsimp only[entMkR,x57,Z1,Z10,Z11,Z12,Z13,Z19,Z20,Z23,Z24,Z3,Z5,Z7,Z8,Za,Zb,Zc,Zd,Zf,Zg,Zi];simp only[↓hcsMkR,entAs20,entRFits,entRTog,entChR,entGrd16,entWt20,entCk19,undef,ha,hcl,hfe,hf2,hz,go_sem];try simp only[ha,hcl,hfe,hf2,hz,td,reduceCtorEq]
   all_goals rfl
end T
end Go.Proofs.YtcnfmabhghhdnaaGreat
end
