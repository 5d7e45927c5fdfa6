/- Parts of the proof of the law; no condition. -/
import Derived.Test.YtpocfbfmjippnaaGreatG46
import Derived.Test.YtpocfbfmjippnaaGreatG47
set_option linter.all false
section
namespace Go.Proofs.YtpocfbfmjippnaaGreat
open Go.RowKit Go.IntWalk
namespace T
def OrdB (n:Int) (o:List Int):Prop:=∀j,j<o.length→(0≤o.getD j 0∧o.getD j 0<n)∧o.getD j 0∉o.take j
instance (n:Int) (o:List Int):Decidable (OrdB n o):=by unfold OrdB;infer_instance
def entLsR:Ent:=⟨25,.cons Z5 (.cons Z5 .nil),(.int .i64),false,none,fun x=>List.length (α:=Int) x.1≤1000∧List.length (α:=Int) x.2.1=List.length (α:=Int) x.1,fun x=>lessR x.1 x.2.1⟩
def csLsR:List Ent:=[] theorem hcsLsR (f:FuncId):findEnt csLsR f=findEnt [] f:=rfl
set_option maxHeartbeats 1000000 in
theorem conLsR:Con Tryz.prog entLsR:=by
 refine con_is (C:=csLsR) x25 (by kernel_rfl) (by simp[csLsR]) fun x hx hf=>?_;obtain ⟨(a:List Int),(b:List Int),_⟩:=x;obtain ⟨hl,hb⟩:a.length≤1000∧b.length=a.length:=hx;dsimp only[entLsR,x25];simp only[↓hcsLsR,undef,go_sem];try simp only[td,reduceCtorEq]
 have hr:=fun j=>lost_rng (a.take j);have hr':=fun j=>lost_rng (b.take j);refine XW_for 1000 x25_0d [] Nat (fun j=>[(8,.val Z1 (j:Int)),(5,.val Z1 (lostN (a.take j))),(6,.val Z1 (lostN (b.take j))),(7,.val Z1 (frstL (a.take j) (b.take j)))]) (fun _=>[]) (fun j=>j≤a.length) (fun j=>a.length-j) 0 ?_ ?_ ?_
 ·dsimp only[x25_0d];simp only[go_sem];first|done|exact ⟨rfl,rfl,rfl,rfl⟩|exact ⟨rfl,rfl,rfl⟩|exact ⟨rfl,rfl⟩|rfl
 ·exact Nat.zero_le _
 intro j hj;dsimp only[x25_0,x25_0d];by_cases hj':j<a.length
 case neg=>
  obtain rfl:j=a.length:=by omega
  rw[List.take_length,List.take_of_length_le (by omega:b.length≤a.length)];by_cases h0:lostN a<lostN b
  ·have hF:lessR a b= -1:=by unfold lessR;rw[if_pos h0]
   simp only[↓hcsLsR,undef,hj',h0,hF,go_sem];try simp only[hj',h0,hF,td,reduceCtorEq]
  ·by_cases h1:lostN b<lostN a
   ·have hF:lessR a b=1:=by unfold lessR;rw[if_neg h0,if_pos h1]
    have h2:lostN a>lostN b:=h1;simp only[↓hcsLsR,undef,hj',h0,h1,h2,hF,go_sem];try simp only[hj',h0,h1,h2,hF,td,reduceCtorEq]
   ·have hF:lessR a b=frstL a b:=by unfold lessR;rw[if_neg h0,if_neg h1]
    have h2:¬lostN a>lostN b:=h1;simp only[↓hcsLsR,undef,hj',h0,h1,h2,hF,go_sem];try simp only[hj',h0,h1,h2,hF,td,reduceCtorEq]
 have w1:IntKind.i64.wrap ((j:Int)+1)=((j+1:Nat):Int):=i64_in _ (by omega);have h1:=lost_at hj';have hjb:j<b.length:=by omega
 have h2:=lost_at hjb;have h3:=frst_at hj' hjb;have ra:=hr j;have rb:=hr' j;rw[List.length_take] at ra rb;obtain ⟨x,hX⟩:∃x,a.getD j 0=x:=⟨_,rfl⟩;obtain ⟨y,hY⟩:∃x,b.getD j 0=x:=⟨_,rfl⟩;rw[hX] at h1 h3;rw[hY] at h2 h3;generalize lostN (a.take j)=u at*;generalize lostN (b.take j)=v at*;generalize frstL (a.take j) (b.take j)=z at*;have wu:IntKind.i64.wrap (u+1)=u+1:=i64_in _ (by omega);have wv:IntKind.i64.wrap (v+1)=v+1:=i64_in _ (by omega);by_cases hx0:x<0
 ·rw[if_pos hx0] at h1;have hx1:¬x≥0:=by omega
  have hx2:¬0≤x:=by omega
  by_cases hy0:y<0
  ·rw[if_pos hy0] at h2;replace h3:frstL (a.take (j+1)) (b.take (j+1))=z:=by
    rw[h3];by_cases hz:z=0
    ·rw[if_pos hz,if_neg (by omega),if_neg (by omega),hz]
    ·rw[if_neg hz]
   have hy1:¬y≥0:=by omega
   have hy2:¬0≤y:=by omega
   have hz3:=h3;by_cases hz:z=0<;>
   ·simp only[↓hcsLsR,undef,hj',hjb,w1,wu,wv,hX,hY,hx0,hx1,hx2,hy0,hy1,hy2,hz,go_sem];try simp only[hj',hjb,w1,wu,wv,hX,hY,hx0,hx1,hx2,hy0,hy1,hy2,hz,td,reduceCtorEq]
    refine ⟨j+1,by omega,by omega,rfl,?_,?_,?_⟩
    ·rw[h1]
    ·rw[h2]
    ·rw[hz3];try exact hz.symm
  ·rw[if_neg hy0] at h2;replace h3:frstL (a.take (j+1)) (b.take (j+1))=if z=0 then 1 else z:=by
    rw[h3];by_cases hz:z=0
    ·rw[if_pos hz,if_pos hz,if_pos (by omega)]
    ·rw[if_neg hz,if_neg hz]
   have hy1:y≥0:=by omega
   have hy2:0≤y:=by omega
   by_cases hz:z=0
   ·rw[if_pos hz] at h3;simp only[↓hcsLsR,undef,hj',hjb,w1,wu,wv,hX,hY,hx0,hx1,hx2,hy0,hy1,hy2,hz,go_sem];try simp only[hj',hjb,w1,wu,wv,hX,hY,hx0,hx1,hx2,hy0,hy1,hy2,hz,td,reduceCtorEq]
    refine ⟨j+1,by omega,by omega,rfl,?_,?_,?_⟩
    ·rw[h1]
    ·rw[h2];try (show (_:Int)=_;omega)
    ·rw[h3]
   ·rw[if_neg hz] at h3;simp only[↓hcsLsR,undef,hj',hjb,w1,wu,wv,hX,hY,hx0,hx1,hx2,hy0,hy1,hy2,hz,go_sem];try simp only[hj',hjb,w1,wu,wv,hX,hY,hx0,hx1,hx2,hy0,hy1,hy2,hz,td,reduceCtorEq]
    refine ⟨j+1,by omega,by omega,rfl,?_,?_,?_⟩
    ·rw[h1]
    ·rw[h2];try (show (_:Int)=_;omega)
    ·rw[h3]
 ·rw[if_neg hx0] at h1;have hx1:x≥0:=by omega
  have hx2:0≤x:=by omega
  by_cases hy0:y<0
  ·rw[if_pos hy0] at h2;replace h3:frstL (a.take (j+1)) (b.take (j+1))=if z=0 then-1 else z:=by
    rw[h3];by_cases hz:z=0
    ·rw[if_pos hz,if_pos hz,if_neg (by omega),if_pos (by omega)]
    ·rw[if_neg hz,if_neg hz]
   have hy1:¬y≥0:=by omega
   have hy2:¬0≤y:=by omega
   by_cases hz:z=0
   ·rw[if_pos hz] at h3;simp only[↓hcsLsR,undef,hj',hjb,w1,wu,wv,hX,hY,hx0,hx1,hx2,hy0,hy1,hy2,hz,go_sem];try simp only[hj',hjb,w1,wu,wv,hX,hY,hx0,hx1,hx2,hy0,hy1,hy2,hz,td,reduceCtorEq]
    refine ⟨j+1,by omega,by omega,rfl,?_,?_,?_⟩
    ·rw[h1];try (show (_:Int)=_;omega)
    ·rw[h2]
    ·rw[h3]
   ·rw[if_neg hz] at h3;simp only[↓hcsLsR,undef,hj',hjb,w1,wu,wv,hX,hY,hx0,hx1,hx2,hy0,hy1,hy2,hz,go_sem];try simp only[hj',hjb,w1,wu,wv,hX,hY,hx0,hx1,hx2,hy0,hy1,hy2,hz,td,reduceCtorEq]
    refine ⟨j+1,by omega,by omega,rfl,?_,?_,?_⟩
    ·rw[h1];try (show (_:Int)=_;omega)
    ·rw[h2]
    ·rw[h3]
  ·rw[if_neg hy0] at h2;replace h3:frstL (a.take (j+1)) (b.take (j+1))=z:=by
    rw[h3];by_cases hz:z=0
    ·rw[if_pos hz,if_neg (by omega),if_neg (by omega),hz]
    ·rw[if_neg hz]
   have hy1:y≥0:=by omega
   have hy2:0≤y:=by omega
   have hz3:=h3;by_cases hz:z=0<;>
   ·simp only[↓hcsLsR,undef,hj',hjb,w1,wu,wv,hX,hY,hx0,hx1,hx2,hy0,hy1,hy2,hz,go_sem];try simp only[hj',hjb,w1,wu,wv,hX,hY,hx0,hx1,hx2,hy0,hy1,hy2,hz,td,reduceCtorEq]
    refine ⟨j+1,by omega,by omega,rfl,?_,?_,?_⟩
    ·rw[h1];try (show (_:Int)=_;omega)
    ·rw[h2];try (show (_:Int)=_;omega)
    ·rw[hz3];try exact hz.symm
set_option pp.deepTerms true
set_option pp.maxSteps 1000000
def entBg8:Ent:=⟨22,.cons Z1 (.cons Z1 .nil),Z5,false,none,fun x=>0≤(x.1:Int)∧(x.1:Int)≤1000,fun x=>List.replicate (Int.toNat x.1) (fstF x.2.1)⟩
def csBg8:List Ent:=[entFst] theorem hcsBg8 (f:FuncId):findEnt csBg8 f=findEnt [entFst] f:=rfl
theorem conBg8:Con Tryz.prog entBg8:=by
 refine con_is (C:=csBg8) x22 (by kernel_rfl) (by simp[csBg8,conFst]) fun x hx hf=>?_;obtain ⟨(n:Int),(h:Int),_⟩:=x;obtain ⟨h1,h2⟩:0≤n∧n≤1000:=hx;obtain ⟨m,rfl⟩:∃m:Nat,n=m:=⟨n.toNat,by omega⟩;obtain ⟨f,hff⟩:∃f:Int,fstF h=f:=⟨_,rfl⟩;have hf0:(if (h:Int)=0 then (-1:Int) else 0)=f:=hff;obtain ⟨RR,hRR⟩:∃RR:Nat→List Int,∀k,RR k=List.replicate k f:=⟨_,fun k=>rfl⟩;have hRl:∀k,(RR k).length=k:=fun k=>by rw[hRR,List.length_replicate]
 have hRn:∀k,RR k++[f]=RR (k+1):=fun k=>by rw[hRR,hRR,←List.replicate_succ']
 dsimp only[entBg8,x22];rw[hff,←hRR,Int.toNat_natCast];simp only[↓hcsBg8,entFst,undef,go_sem];try simp only[td,reduceCtorEq]
 refine XW_for 1000 x22_0d [] Nat (fun k=>[(6,.val Z1 (k:Int)),(5,.own 100)]) (fun k=>[(100,.row 3 (.int .i64) (RR k))]) (fun k=>k≤m) (fun k=>m-k) 0 ?_ ?_ ?_
 ·dsimp only[x22_0d];simp only[show RR 0=[] by rw[hRR];rfl,go_sem];first|done|exact ⟨rfl,rfl⟩|rfl
 ·exact Nat.zero_le _
 intro k hk;dsimp only[x22_0,x22_0d];by_cases hk':k<m
 ·have hki:(k:Int)<(m:Int):=by omega
  have w2:IntKind.i64.wrap ((k:Int)+1)=((k+1:Nat):Int):=i64_in _ (by omega);have hb:((RR k).length+1)*8≤140737488355328:=by rw[hRl];omega
  simp only[↓hcsBg8,entFst,undef,hki,w2,hf0,hRn,hb,go_sem];try simp only[hki,w2,hf0,hRn,hb,td,reduceCtorEq]
  exact ⟨k+1,by omega,by omega,rfl,rfl⟩
 obtain rfl:k=m:=by omega
 have hki:¬(k:Int)<(k:Int):=by omega
 simp only[↓hcsBg8,entFst,undef,hki,go_sem];try simp only[hki,td,reduceCtorEq]
end T
end Go.Proofs.YtpocfbfmjippnaaGreat
end
section
namespace Go.Proofs.YtpocfbfmjippnaaGreat
namespace T
def cntB (w:DWorld) (hs:List DPlan) (o b:List Int) (i:Nat):Nat:=(((chF hs.length o.length).take i).filter (badB w hs o b)).length
theorem cntB_le (w:DWorld) (hs:List DPlan) (o b:List Int) (i:Nat):cntB w hs o b i≤i:=Nat.le_trans (List.length_filter_le _ _) (List.length_take_le _ _)
theorem Rep8.step {w:DWorld} {ps:List DPlan} {b:Int} {o:List Int} {x:List Int×List DPlan×Int} {F:List DCase} (h:Rep8 w ps b o x F) {i:Nat} (hi:i<(chF (helpF ps b).length o.length).length) {t:List Int} (ht:(chF (helpF ps b).length o.length).getD i []=t):
  (badB w (helpF ps b) o x.1 t=true→cntB w (helpF ps b) o x.1 i<(keepR x.1 F).length∧(keepR x.1 F).getD (cntB w (helpF ps b) o x.1 i) dCase=(t,(playR w (helpF ps b) o t 0).2)∧cntB w (helpF ps b) o x.1 (i+1)=cntB w (helpF ps b) o x.1 i+1)∧
  (badB w (helpF ps b) o x.1 t=false→cntB w (helpF ps b) o x.1 (i+1)=cntB w (helpF ps b) o x.1 i):=by
 obtain ⟨h1,h2⟩:=fil_at (badB w (helpF ps b) o x.1) [] (chF (helpF ps b).length o.length) hi
 rw[ht] at h1 h2
 refine ⟨fun q=>?_,h2⟩
 obtain ⟨k1,k2,k3⟩:=h1 q
 rw[h.proof,List.length_map]
 refine ⟨k1,?_,k3⟩
 have e:cntB w (helpF ps b) o x.1 i=(((chF (helpF ps b).length o.length).take i).filter (badB w (helpF ps b) o x.1)).length:=rfl
 rw[e]
 generalize (((chF (helpF ps b).length o.length).take i).filter (badB w (helpF ps b) o x.1)).length=k at k1 k2
 generalize (chF (helpF ps b).length o.length).filter (badB w (helpF ps b) o x.1)=M at k1 k2
 simp only[List.getD,List.getElem?_map] at k2⊢
 rw[List.getElem?_eq_getElem k1] at k2⊢
 have k2:M[k]=t:=k2
 show (M[k],(playR w (helpF ps b) o M[k] 0).2)=_
 rw[k2]
theorem Rep8.cnt_all {w:DWorld} {ps:List DPlan} {b:Int} {o:List Int} {x:List Int×List DPlan×Int} {F:List DCase} (h:Rep8 w ps b o x F):cntB w (helpF ps b) o x.1 (chF (helpF ps b).length o.length).length=(keepR x.1 F).length:=by
 rw[h.proof,List.length_map];unfold cntB;rw[List.take_length]
end T
end Go.Proofs.YtpocfbfmjippnaaGreat
end
