/- Parts of the proof of the law; no condition. -/
import Derived.Test.YtpocfbfmjippnaaGreatH33
set_option linter.all false
section
namespace Go.Proofs.YtpocfbfmjippnaaGreat
open Go.RowKit Go.IntWalk
namespace T
def entCkR:Ent:=⟨73,.cons Z21 (.cons Z22 .nil),(.int .i64),false,none,fun _=>True,fun x=>checkP x.1 x.2.1⟩
def csCkR:List Ent:=[entAs20,entRFits,entRTog,entChR,entSmLg,entRR16,entTi20,entKs20,entWt20,entCk19] theorem hcsCkR (f:FuncId):findEnt csCkR f=findEnt [entAs20,entRFits,entRTog,entChR,entSmLg,entRR16,entTi20,entKs20,entWt20,entCk19] f:=rfl
set_option maxHeartbeats 1000000 in
theorem conCkR:Con Tryz.prog entCkR:=by
 refine con_is (C:=csCkR) x73 (by kernel_rfl) (by simp[csCkR,conAs20,conRFits,conRTog,conChR,conSmLg,conRR16,conTi20,conKs20,conWt20,conCk19]) fun x hx hf=>?_;obtain ⟨⟨(N:Int),(A:List DArc),(C:List DCar),(Q:List DReq),(P:List DPair),(S1:Int),(S2:Int),(S3:Int)⟩,⟨(c:Int),(ss:List DStop),(Lg:List DLeg),(Lv:List Int)⟩,_⟩:=x;have hz:=checkP_eq (N,A,C,Q,P,S1,S2,S3) (c,ss,Lg,Lv);have hb:=begF_eq (N,A,C,Q,P,S1,S2,S3) c ss;dsimp only at hz;have hLvl:Lv.length≤9223372036854775807:=hf.2.1.2.2.2.1;cases ha:asksF (N,A,C,Q,P,S1,S2,S3) c ss with
 |false=>
  rw[if_pos ha] at hb;rw[hb] at hz;dsimp only at hz;rw[if_pos (by decide)] at hz;dsimp only[entCkR,x73];simp only[↓hcsCkR,entAs20,entRFits,entRTog,entChR,entSmLg,entRR16,entTi20,entKs20,entWt20,entCk19,undef,ha,hz,go_sem];try simp only[ha,hz,td,reduceCtorEq]
  all_goals rfl
 |true=>
  rw[if_neg (by rw[ha];simp)] at hb;obtain ⟨hw,hc,hss⟩:=asks_iff.1 ha;dsimp only at hc hss;obtain ⟨c,rfl⟩:∃z:Nat,c=z:=⟨c.toNat,by omega⟩;have hcl:c<C.length:=by omega
  have hca:carAt (N,A,C,Q,P,S1,S2,S3) (c:Int)=C.getD c (0,0,0,0,0,0,0,0,0):=rfl;rw[hca] at hb;dsimp only at hb;generalize hfe:fitsF (carLoad (C.getD c (0,0,0,0,0,0,0,0,0))) ss Q=fe at hb;obtain ⟨f1,f2⟩:=fe;dsimp only at hb;by_cases hf2:f2=0
  ·subst hf2;rw[if_neg (by simp)] at hb;cases ht:togF P ss Q with
   |false=>
    rw[if_pos ht] at hb;rw[hb] at hz;dsimp only at hz;rw[if_pos (by decide)] at hz;dsimp only[entCkR,x73];simp only[↓hcsCkR,entAs20,entRFits,entRTog,entChR,entSmLg,entRR16,entTi20,entKs20,entWt20,entCk19,undef,ha,hcl,hfe,ht,hz,go_sem];try simp only[ha,hcl,hfe,ht,hz,td,reduceCtorEq]
    all_goals rfl
   |true=>
    rw[if_neg (by rw[ht];simp)] at hb;generalize hch:chainF (N,A,C,Q,P,S1,S2,S3) (c:Int) ss=be at hb;rw[hb] at hz;obtain ⟨⟨W,L,R⟩,e⟩:=be;dsimp only at hz;by_cases he:e=0
    ·subst he;rw[if_neg (by simp)] at hz;have hok:okC (N,A,C,Q,P,S1,S2,S3) (c,ss,Lg,Lv) (W,L,R)=(decide (Lg=L)&&(decide (Lv.length=W.length)&&(allIn 1048576 Lv&&rightC (W,L,R)))):=rfl;by_cases hq:Lg=L∧Lv.length=W.length∧rightC (W,L,R)=true
     ·obtain ⟨o1,o2,o4⟩:=hq;subst o1;have o2i:(Lv.length:Int)=(W.length:Int):=by omega
      rw[decide_eq_true rfl,decide_eq_true o2,o4,Bool.true_and,Bool.true_and,Bool.and_true] at hok;dsimp only[entCkR,x73];simp only[↓hcsCkR,entAs20,entRFits,entRTog,entChR,entSmLg,entRR16,entTi20,entKs20,entWt20,entCk19,undef,ha,hcl,hfe,ht,hch,o2,o2i,o4,go_sem];try simp only[ha,hcl,hfe,ht,hch,o2,o2i,o4,td,reduceCtorEq]
      have hfitA:Within 0 1048576 Lv→fitsG (W,Lg,R) Lv=true:=fun h=>fitsG_iff.2 ⟨o4,o2,fun x hx=>by have:=h x hx;omega⟩;refine XW_for 1000 x73_0d [0,1,45] Nat (fun j=>[(8,.val Z1 (j:Int))]) (fun _=>[]) (fun j=>j≤Lv.length∧∀i,i<j→0≤Lv.getD i 0∧Lv.getD i 0≤1048576) (fun j=>Lv.length-j) 0 ?_ ?_ ?_
      ·dsimp only[x73_0d];simp only[go_sem];try trivial
      ·exact ⟨Nat.zero_le _,fun i hi=>by omega⟩
      rintro j ⟨hj,hn⟩;by_cases hjl:j<Lv.length
      ·have w2:IntKind.i64.wrap ((j:Int)+1)=((j+1:Nat):Int):=i64_in _ (by omega);have hjw:j<W.length:=by omega
       cases ht3:i3 (Lv.getD j 0) 0 1048576 with
       |false=>
        have hal:allIn 1048576 Lv=false:=by
         rw[←Bool.not_eq_true];intro h;have:=allIn_within.1 h _ (getD_mem2 (d:=0) hjl);generalize Lv.getD j 0=z at this ht3;unfold i3 at ht3;simp at ht3;omega
        rw[if_pos (hok.trans hal)] at hz;dsimp only[x73_0,x73_0d];simp only[↓hcsCkR,entAs20,entRFits,entRTog,entChR,entSmLg,entRR16,entTi20,entKs20,entWt20,entCk19,hjl,o2,hjw,w2,ht3,hz,go_sem];try simp only[hjl,o2,hjw,w2,ht3,hz,td,reduceCtorEq]
       |true=>
        dsimp only[x73_0,x73_0d];simp only[↓hcsCkR,entAs20,entRFits,entRTog,entChR,entSmLg,entRR16,entTi20,entKs20,entWt20,entCk19,hjl,o2,hjw,w2,ht3,go_sem];try simp only[hjl,o2,hjw,w2,ht3,td,reduceCtorEq]
        refine ⟨j+1,by omega,⟨by omega,fun i hi=>?_⟩,rfl⟩;rcases Nat.lt_or_ge i j with q|q
        ·exact hn i q
        ·rw[show i=j by omega];generalize Lv.getD j 0=z at ht3⊢;unfold i3 at ht3;simp at ht3;omega
      ·have hwi:Within 0 1048576 Lv:=fun x hx=>by
        obtain ⟨i,hi,rfl⟩:=List.getElem_of_mem hx;have:=hn i (by omega);rwa [show Lv.getD i 0=Lv[i] by simp[List.getD,hi]] at this
       have hfit:=hfitA hwi;have hal:=hok.trans (allIn_within.2 hwi);have hjw:¬j<W.length:=by omega
       rw[if_neg (by rw[hal];simp)] at hz;have hrs:restsF (N,A,C,Q,P,S1,S2,S3) (W,Lg,R) Lv=decide ((checkK (S1,S2,S3) Lg (waitsF (W,Lg,R) Lv)).2=0):=rfl;rw[hrs] at hz;cases hk:keeps20 (W,Lg,R) Lv with
       |false=>
        rw[if_pos hk] at hz;dsimp only[x73_0,x73_0d];simp only[↓hcsCkR,entAs20,entRFits,entRTog,entChR,entSmLg,entRR16,entTi20,entKs20,entWt20,entCk19,hjl,o2,hjw,hk,o4,hz,go_sem];try simp only[hjl,o2,hjw,hk,o4,hz,td,reduceCtorEq]
       |true=>
        rw[if_neg (by rw[hk];simp)] at hz;have hdd:∀k2:Int,(if decide (k2=0)=false then (29:Int) else 0)=if¬k2=0 then 29 else 0:=fun k2=>by by_cases q:k2=0<;>simp[q]
        generalize hck:checkK (S1,S2,S3) Lg (waitsF (W,Lg,R) Lv)=ck at hz;obtain ⟨k1,k2⟩:=ck;dsimp only at hz;rw[hdd] at hz;dsimp only[x73_0,x73_0d];simp only[↓hcsCkR,entAs20,entRFits,entRTog,entChR,entSmLg,entRR16,entTi20,entKs20,entWt20,entCk19,hjl,o2,hjw,hk,o4,hck,hfit,hz,go_sem];try simp only[hjl,o2,hjw,hk,o4,hck,hfit,hz,td,reduceCtorEq]
        refine ⟨fun h=>?_,fun h=>?_⟩
        ·rw[if_pos h]
        ·rw[if_neg (fun q=>q h)]
     ·have hok2:okC (N,A,C,Q,P,S1,S2,S3) (c,ss,Lg,Lv) (W,L,R)=false:=by
       rw[←Bool.not_eq_true];intro h;rw[hok] at h;simp only[Bool.and_eq_true,decide_eq_true_eq] at h;exact hq ⟨h.1,h.2.1,h.2.2.2⟩
      rw[if_pos hok2] at hz;have hn:(Lv.length:Int)=(W.length:Int)→Lv.length=W.length:=fun h=>by omega
      dsimp only[entCkR,x73];simp only[↓hcsCkR,entAs20,entRFits,entRTog,entChR,entSmLg,entRR16,entTi20,entKs20,entWt20,entCk19,undef,ha,hcl,hfe,ht,hch,hz,go_sem];try simp only[ha,hcl,hfe,ht,hch,hz,td,reduceCtorEq]
      exact fun h=>absurd ⟨h.1.1,h.1.2,h.2⟩ hq
    ·rw[if_pos he] at hz;dsimp only[entCkR,x73];simp only[↓hcsCkR,entAs20,entRFits,entRTog,entChR,entSmLg,entRR16,entTi20,entKs20,entWt20,entCk19,undef,ha,hcl,hfe,ht,hch,he,hz,go_sem];try simp only[ha,hcl,hfe,ht,hch,he,hz,td,reduceCtorEq]
     all_goals rfl
  ·rw[if_pos hf2] at hb;rw[hb] at hz;dsimp only at hz;rw[if_pos (by decide)] at hz;dsimp only[entCkR,x73];simp only[↓hcsCkR,entAs20,entRFits,entRTog,entChR,entSmLg,entRR16,entTi20,entKs20,entWt20,entCk19,undef,ha,hcl,hfe,hf2,hz,go_sem];try simp only[ha,hcl,hfe,hf2,hz,td,reduceCtorEq]
   all_goals rfl
def entEnR:Ent:=⟨77,.cons Z21 (.cons Z22 .nil),.cons Z1 (.cons Z1 .nil),true,none,fun _=>True,fun x=>((endP x.1 x.2.1).1,(endP x.1 x.2.1).2,())⟩
def csEnR:List Ent:=[entCkR,entChR,entWst16] theorem hcsEnR (f:FuncId):findEnt csEnR f=findEnt [entCkR,entChR,entWst16] f:=rfl
theorem conEnR:Con Tryz.prog entEnR:=by
 refine con_is (C:=csEnR) x77 (by kernel_rfl) (by simp[csEnR,conCkR,conChR,conWst16]) fun x hx hf=>?_;obtain ⟨⟨(N:Int),(A:List DArc),(C:List DCar),(Q:List DReq),(P:List DPair),(S1:Int),(S2:Int),(S3:Int)⟩,⟨(c:Int),(ss:List DStop),(Lg:List DLeg),(Lv:List Int)⟩,_⟩:=x;have hz:=endP_eq (N,A,C,Q,P,S1,S2,S3) (c,ss,Lg,Lv);have hck:=fun h=>check_ok (w:=(N,A,C,Q,P,S1,S2,S3)) (p:=(c,ss,Lg,Lv)) h;dsimp only at hz hck;generalize he:checkP (N,A,C,Q,P,S1,S2,S3) (c,ss,Lg,Lv)=e at hz hck;by_cases h0:e=0
 ·subst h0;rw[if_neg (by simp)] at hz;obtain ⟨_,_,hok,_,_⟩:=hck rfl;generalize hch:chainF (N,A,C,Q,P,S1,S2,S3) c ss=ch at hz hok;obtain ⟨⟨W,L,R⟩,e2⟩:=ch;have hfit:=(okC_fits hok).2;dsimp only at hfit hz;have hw:worstF (W,L,R) Lv=(playF Lv (highsF L),0):=by unfold worstF;rw[if_pos hfit]
  have hpl:(playF Lv (highsF L)).length=L.length+1:=by rw[playF_len,highs_len]
  have hlen:=(rightC_iff.1 (fitsG_iff.1 hfit).1).1;dsimp only at hlen;have w1:IntKind.i64.wrap (((L.length+1:Nat):Int)-1)=(L.length:Int):=(i64_in _ (by omega)).trans (by omega);rw[hw] at hz;unfold lastI at hz;dsimp only at hz;rw[hpl,Nat.add_sub_cancel] at hz;have hl0:L.length<L.length+1:=by omega
  dsimp only[entEnR,x77];simp only[↓hcsEnR,entCkR,entChR,entWst16,undef,he,hch,hw,hpl,w1,hl0,go_sem];try simp only[he,hch,hw,hpl,w1,hl0,td,reduceCtorEq]
  rw[hz]
 ·rw[if_pos h0] at hz;dsimp only[entEnR,x77];simp only[↓hcsEnR,entCkR,entChR,entWst16,undef,he,h0,hz,go_sem];try simp only[he,h0,hz,td,reduceCtorEq]
def entSmP:Ent:=⟨29,.cons Z22 (.cons Z22 .nil),.bool,false,none,fun _=>True,fun x=>decide ((x.1:DPlan)=x.2.1)⟩
def csSmP:List Ent:=[entSmLg,entSmSt,entInt16] theorem hcsSmP (f:FuncId):findEnt csSmP f=findEnt [entSmLg,entSmSt,entInt16] f:=rfl
theorem conSmP:Con Tryz.prog entSmP:=by
 refine con_is (C:=csSmP) x29 (by kernel_rfl) (by simp[csSmP,conSmLg,conSmSt,conInt16]) fun x hx hf=>?_;obtain ⟨⟨(c:Int),(ss:List DStop),(Lg:List DLeg),(Lv:List Int)⟩,⟨(c':Int),(ss':List DStop),(Lg':List DLeg),(Lv':List Int)⟩,_⟩:=x;dsimp only[entSmP,x29];simp only[↓hcsSmP,entSmLg,entSmSt,entInt16,undef,go_sem];try simp only[td,reduceCtorEq]
 rw[Bool.eq_iff_iff];simp only[Bool.and_eq_true,beq_iff_eq,decide_eq_true_eq,Prod.mk.injEq,and_assoc]
def few20 (w:DWorld) (ss:List DStop):Bool:=
 ((List.range w.2.1.length).all fun k=>decide (10<k∨((w.2.1.getD k (0,0,[],[])).2.2.1.length≤25∧(w.2.1.getD k (0,0,[],[])).2.2.2.length≤25)))&&
 decide ((w.1≤5∨w.1>2000)∧w.2.1.length≤10∧w.2.2.1.length≤4∧w.2.2.2.1.length≤8∧w.2.2.2.2.1.length≤5∧ss.length≤10)
def entFew20:Ent:=⟨30,.cons Z21 (.cons Z15 .nil),.bool,false,none,fun _=>True,fun x=>few20 x.1 x.2.1⟩
def csFew20:List Ent:=[] theorem hcsFew20 (f:FuncId):findEnt csFew20 f=findEnt [] f:=rfl
theorem conFew20:Con Tryz.prog entFew20:=by
 refine con_is (C:=csFew20) x30 (by kernel_rfl) (by simp[csFew20]) fun x hx hf=>?_;obtain ⟨⟨(N:Int),(A:List DArc),(C:List DCar),(Q:List DReq),(P:List DPair),(S1:Int),(S2:Int),(S3:Int)⟩,(ss:List DStop),_⟩:=x;dsimp only[entFew20,x30];simp only[↓hcsFew20,undef,go_sem];try simp only[td,reduceCtorEq]
 have hN1:N>2000↔2000<N:=Iff.rfl;refine XW_for 1000 x30_0d [0] Nat (fun j=>[(5,.val Z1 (j:Int))]) (fun _=>[]) (fun j=>(j≤A.length∧j≤11)∧∀i,i<j→(A.getD i (0,0,[],[])).2.2.1.length≤25∧(A.getD i (0,0,[],[])).2.2.2.length≤25) (fun j=>A.length-j) 0 ?_ ?_ ?_
 ·dsimp only[x30_0d];simp only[go_sem];try trivial
 ·exact ⟨⟨Nat.zero_le _,by omega⟩,fun i hi=>by omega⟩
 rintro j ⟨⟨hj,hj11⟩,hn⟩;by_cases hja:j<A.length∧j≤10
 ·obtain ⟨hja,hjb⟩:=hja;have w2:IntKind.i64.wrap ((j:Int)+1)=((j+1:Nat):Int):=i64_in _ (by omega);have hjbi:(j:Int)≤10:=by omega
  have hno:¬((A.getD j (0,0,[],[])).2.2.1.length≤25∧(A.getD j (0,0,[],[])).2.2.2.length≤25)→few20 (N,A,C,Q,P,S1,S2,S3) ss=false:=fun h=>by
   unfold few20;rw[Bool.and_eq_false_iff];refine .inl (List.all_eq_false.2 ⟨j,List.mem_range.2 hja,?_⟩);rw[decide_eq_true_eq];rintro (q|q)
   ·omega
   ·exact h q
  dsimp only[x30_0,x30_0d];simp only[↓hcsFew20,undef,hja,hjb,hjbi,w2,go_sem];try simp only[hja,hjb,hjbi,w2,td,reduceCtorEq]
  refine ⟨fun h=>(hno fun q=>?_).symm,fun h=>⟨j+1,by omega,⟨⟨by omega,by omega⟩,fun i hi=>?_⟩,rfl⟩⟩
  ·rcases h with h|h
   ·exact absurd (Int.ofNat_le.2 q.1) (Int.not_le.2 h)
   ·exact absurd (Int.ofNat_le.2 q.2) (Int.not_le.2 h)
  ·rcases Nat.lt_or_ge i j with q|q
   ·exact hn i q
   ·rw[show i=j by omega];exact ⟨Int.ofNat_le.1 h.1,Int.ofNat_le.1 h.2⟩
 ·have hf1:few20 (N,A,C,Q,P,S1,S2,S3) ss=decide ((N≤5∨N>2000)∧A.length≤10∧C.length≤4∧Q.length≤8∧P.length≤5∧ss.length≤10):=by
   unfold few20;dsimp only;rw[List.all_eq_true.2 fun k hk=>?_,Bool.true_and];rw[decide_eq_true_eq];have:=List.mem_range.1 hk;by_cases q:k<j
   ·exact .inr (hn k q)
   ·left;omega
  have hcond:¬((j:Int)<(A.length:Int)∧(j:Int)≤10):=by omega
  dsimp only[x30_0,x30_0d];simp only[↓hcsFew20,undef,hf1,go_sem];try simp only[hf1,td,reduceCtorEq]
  refine ⟨fun h=>absurd ⟨h.1,by omega⟩ hja,fun _=>?_⟩;rw[Bool.eq_iff_iff];simp only[Bool.and_eq_true,Bool.or_eq_true,decide_eq_true_eq];omega
end T
end Go.Proofs.YtpocfbfmjippnaaGreat
end
