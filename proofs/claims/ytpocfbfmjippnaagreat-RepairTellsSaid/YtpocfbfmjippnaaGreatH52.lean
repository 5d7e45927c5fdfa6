/- Parts of the proof of the law; no condition. -/
import Derived.Test.YtpocfbfmjippnaaGreatH41
set_option linter.all false
section
namespace Go.Proofs.YtpocfbfmjippnaaGreat
open Go.RowKit Go.IntWalk
namespace T
set_option pp.deepTerms true
set_option pp.maxSteps 1000000
set_option maxHeartbeats 4000000 in
theorem rest38 {N:Int} {A:List DArc} {C:List DCar} {Q:List DReq} {P:List DPair} {S1 S2 S3:Int} {ps hs xl:List DPlan} {b xn:Int} {o x0:List Int} {F:List DCase} (h0:x0.length=o.length) (ho:o.length≤1000) (hF:∀c∈F,c.1.length=o.length) (hFn:F.length≤1000000) (hxn:xl.length≤1000) (hxl:∀p∈xl,p.2.1.length≤1000000∧p.2.2.1.length≤1000000∧p.2.2.2.length≤1000000)
  {V:entBsX.r.den} (hV:V=(xl,lostF o x0,keepC x0 F,0,())):XW Tryz.prog csBsX 76 (.clean z9_r) (retQ [.tmp 8,.tmp 9,.tmp 10,.tmp 11] true none entBsX.r V)
  ⟨[(0,.val (.st (.cons (.int .i64) (.cons (.sl (.st (.cons (.int .i64) (.cons (.int .i64) (.cons (.sl (.int .i64)) (.sl (.int .i64))))))) (.cons (.sl (.st (.cons (.int .i64) (.cons (.int .i64) (.cons (.int .i64) (.cons (.int .i64) (.cons (.int .i64) (.cons (.int .i64) (.cons (.int .i64) (.cons (.int .i64) (.int .i64))))))))))) (.cons (.sl (.st (.cons (.int .i64) (.cons (.int .i64) (.cons (.int .i64) (.cons (.int .i64) (.cons (.int .i64) (.cons (.int .i64) (.cons (.int .i64) (.cons (.int .i64) (.cons (.int .i64) (.int .i64)))))))))))) (.cons (.sl (.st (.cons (.int .i64) (.cons (.int .i64) .bool)))) (.st (.cons (.int .i64) (.cons (.int .i64) (.int .i64)))))))))) (N,A,C,Q,P,S1,S2,S3)),(1,.val (.sl (.st (.cons (.int .i64) (.cons (.sl (.st (.cons (.int .i64) .bool))) (.cons (.sl (.st (.cons (.int .i64) (.int .i64)))) (.sl (.int .i64))))))) ps),(2,.val (.int .i64) b),(3,.val (.sl (.int .i64)) o),(4,.ptr 0 0),(8,.own 1),(9,.own 2),(10,.own 3),(11,.val (.int .i64) 0),(12,.val (.sl (.st (.cons (.int .i64) (.cons (.sl (.st (.cons (.int .i64) .bool))) (.cons (.sl (.st (.cons (.int .i64) (.int .i64)))) (.sl (.int .i64))))))) hs),(13,.ptr 27 0),(14,.top),(15,.top),(16,.top),(17,.top),(46,.top),(47,.top),(48,.top),(38,.ptr 26 0)],
   [(26,.box 78 [.val (.int .i64) N,.val (.sl (.st (.cons (.int .i64) (.cons (.int .i64) (.cons (.sl (.int .i64)) (.sl (.int .i64))))))) A,.val (.sl (.st (.cons (.int .i64) (.cons (.int .i64) (.cons (.int .i64) (.cons (.int .i64) (.cons (.int .i64) (.cons (.int .i64) (.cons (.int .i64) (.cons (.int .i64) (.int .i64))))))))))) C,.val (.sl (.st (.cons (.int .i64) (.cons (.int .i64) (.cons (.int .i64) (.cons (.int .i64) (.cons (.int .i64) (.cons (.int .i64) (.cons (.int .i64) (.cons (.int .i64) (.cons (.int .i64) (.int .i64)))))))))))) Q,.val (.sl (.st (.cons (.int .i64) (.cons (.int .i64) .bool)))) P,.val (.int .i64) S1,.val (.int .i64) S2,.val (.int .i64) S3,.val (.sl (.int .i64)) o,.val (.sl (.int .i64)) x0,.val (.sl (.st (.cons (.int .i64) (.cons (.sl (.st (.cons (.int .i64) .bool))) (.cons (.sl (.st (.cons (.int .i64) (.int .i64)))) (.sl (.int .i64))))))) xl,.val (.int .i64) xn,.own 29]),(29,.row 60 (.st (.cons (.sl (.int .i64)) (.int .i64))) F),(27,.box 76 [.ptr 26 0]),(3,.row 60 (.st (.cons (.sl (.int .i64)) (.int .i64))) []),(2,.row 3 (.int .i64) []),(1,.row 65 (.st (.cons (.int .i64) (.cons (.sl (.st (.cons (.int .i64) .bool))) (.cons (.sl (.st (.cons (.int .i64) (.int .i64)))) (.sl (.int .i64)))))) []),(0,.box 39 [.val (.int .i64) N,.val (.sl (.st (.cons (.int .i64) (.cons (.int .i64) (.cons (.sl (.int .i64)) (.sl (.int .i64))))))) A,.val (.sl (.st (.cons (.int .i64) (.cons (.int .i64) (.cons (.int .i64) (.cons (.int .i64) (.cons (.int .i64) (.cons (.int .i64) (.cons (.int .i64) (.cons (.int .i64) (.int .i64))))))))))) C,.val (.sl (.st (.cons (.int .i64) (.cons (.int .i64) (.cons (.int .i64) (.cons (.int .i64) (.cons (.int .i64) (.cons (.int .i64) (.cons (.int .i64) (.cons (.int .i64) (.cons (.int .i64) (.int .i64)))))))))))) Q,.val (.sl (.st (.cons (.int .i64) (.cons (.int .i64) .bool)))) P,.val (.int .i64) S1,.val (.int .i64) S2,.val (.int .i64) S3])],900,[0,1,2,3,4,8,9,10,11,12,13,14,15,16,17,46,47,48,38]⟩:=by
 subst hV
 refine XW_of ?_
 dsimp only[entBsX,z9_r,z34,z70,z35,Z24,Za,Zb,Ze]
 simp only[↓hcsBsX,entRgt,entHlp,entEnd,entLsP,entCiF,entCpF,entBst,entPow,entCop,entCiD,entCpD,undef,go_sem]
 try simp only[td,reduceCtorEq]
 refine XW_for 1000 z9_0d [0,1,2,3,26,27,29] Nat (fun j=>[(48,.val Z1 (j:Int)),(14,.own 900)]) (fun j=>[(900,.row 3 (.int .i64) (lostT o x0 j))]) (fun j=>j≤o.length) (fun j=>o.length-j) 0 ?_ ?_ ?_
 ·dsimp only[z9_0d]
  simp only[go_sem]
  first|done|exact ⟨rfl,rfl⟩|rfl
 ·exact Nat.zero_le _
 intro j hj
 dsimp only[z9_0,z9_0d]
 by_cases hj':j<o.length
 case pos=>
  have hjx:j<x0.length:=by omega
  have w1:IntKind.i64.wrap ((j:Int)+1)=((j+1:Nat):Int):=i64_in _ (by omega)
  have ht:=lostT_at o x0 j
  have hb:((lostT o x0 j).length+1)*8≤140737488355328:=by have:=lostT_len o x0 j;omega
  obtain ⟨y,hY⟩:∃y,x0.getD j 0=y:=⟨_,rfl⟩
  rw[hY] at ht
  by_cases hy:y<0
  ·rw[if_pos hy] at ht
   simp only[↓hcsBsX,entRgt,entHlp,entEnd,entLsP,entCiF,entCpF,entBst,entPow,entCop,entCiD,entCpD,undef,hj',hjx,h0,w1,hY,hy,hb,go_sem]
   try simp only[hj',hjx,h0,w1,hY,hy,hb,td,reduceCtorEq]
   exact ⟨j+1,by omega,by omega,rfl,ht.symm⟩
  ·rw[if_neg hy] at ht
   simp only[↓hcsBsX,entRgt,entHlp,entEnd,entLsP,entCiF,entCpF,entBst,entPow,entCop,entCiD,entCpD,undef,hj',hjx,h0,w1,hY,hy,hb,go_sem]
   try simp only[hj',hjx,h0,w1,hY,hy,hb,td,reduceCtorEq]
   exact ⟨j+1,by omega,by omega,rfl,ht.symm⟩
 obtain rfl:j=o.length:=by omega
 rw[lostT_all]
 have hjI:¬(o.length:Int)<(o.length:Int):=by omega
 simp only[↓hcsBsX,entRgt,entHlp,entEnd,entLsP,entCiF,entCpF,entBst,entPow,entCop,entCiD,entCpD,undef,hj',hjI,h0,go_sem]
 try simp only[hj',hjI,h0,td,reduceCtorEq]
 refine XW_for 2000 z70_0d [0,1,2,3,26,27,29,900,1006] Nat (fun k=>[(8,.val Z1 (k:Int))]) (fun _=>[]) (fun k=>k≤F.length∧∀j,j<k→dropC x0 (F.getD j dCase)=false) (fun k=>F.length-k) 0 ?_ ?_ ?_
 ·dsimp only[z70_0d]
  simp only[go_sem]
  first|done|exact ⟨rfl,rfl⟩|rfl
 ·exact ⟨Nat.zero_le _,fun j hj=>by omega⟩
 rintro k ⟨hk,hkd⟩
 dsimp only[z70_0,z70_0d,z35,Z24,Za,Zb,Ze]
 by_cases hk':k<F.length
 case neg=>
  obtain rfl:k=F.length:=by omega
  have hK:=keep_none hkd
  have hkI:¬(F.length:Int)<(F.length:Int):=by omega
  simp only[↓hcsBsX,entRgt,entHlp,entEnd,entLsP,entCiF,entCpF,entBst,entPow,entCop,entCiD,entCpD,undef,hk',hkI,hK,hxn,hxl,go_sem]
  try simp only[hk',hkI,hK,hxn,hxl,td,reduceCtorEq]
  all_goals first|done|exact hxl
 obtain ⟨⟨ct,cn⟩,hC⟩:∃c:DCase,F.getD k dCase=c:=⟨_,rfl⟩
 have hcl:ct.length=x0.length:=by have:=hF (F.getD k dCase) (by simp[List.getD,hk']);rw[hC] at this;rw[h0];exact this
 have wk:IntKind.i64.wrap ((k:Int)+1)=((k+1:Nat):Int):=i64_in _ (by omega)
 by_cases hd:lessP ct x0≥0
 case neg=>
  simp only[↓hcsBsX,entRgt,entHlp,entEnd,entLsP,entCiF,entCpF,entBst,entPow,entCop,entCiD,entCpD,undef,hk',hC,hcl,wk,hd,go_sem]
  try simp only[hk',hC,hcl,wk,hd,td,reduceCtorEq]
  refine ⟨h0▸ho,k+1,by omega,⟨by omega,fun i hi=>?_⟩,rfl⟩
  by_cases hik:i<k
  ·exact hkd i hik
  ·obtain rfl:i=k:=by omega
   rw[hC]
   exact decide_eq_false hd
 simp only[↓hcsBsX,entRgt,entHlp,entEnd,entLsP,entCiF,entCpF,entBst,entPow,entCop,entCiD,entCpD,undef,hk',hC,hcl,wk,hd,go_sem]
 try simp only[hk',hC,hcl,wk,hd,td,reduceCtorEq]
 refine ⟨h0▸ho,?_⟩
 have hpre:keepC x0 (F.take k)=F.take k:=keep_none fun i hi=>by
  rw[List.length_take] at hi;have:=hkd i (by omega);rwa [show (F.take k).getD i dCase=F.getD i dCase by simp[List.getD,List.getElem?_take,show i<k by omega]]
 have hdk:dropC x0 (F.getD k dCase)=true:=by rw[hC];exact decide_eq_true hd
 refine XW_for 3000 z34_0d [0,1,2,3,26,27,29,900,1006] (Nat×List DCase) (fun s=>[(6,.val Z1 (s.1:Int)),(5,.val Z1 ((keepC x0 (F.take s.1)).length:Int))]) (fun s=>[(29,.row 60 Z24 s.2)])
  (fun s=>(k<s.1∧s.1≤F.length)∧s.2.length=F.length∧s.2.take (keepC x0 (F.take s.1)).length=keepC x0 (F.take s.1)∧s.2.drop s.1=F.drop s.1) (fun s=>F.length-s.1) (k+1,F) ?_ ?_ ?_
 ·dsimp only[z34_0d]
  simp only[go_sem]
  rw[keep_at hk',if_pos hdk,hpre,List.length_take,Nat.min_eq_left (by omega)]
 ·refine ⟨⟨Nat.lt_succ_self _,hk'⟩,rfl,?_,rfl⟩
  dsimp only
  rw[keep_at hk',if_pos hdk,hpre,List.length_take,Nat.min_eq_left (by omega)]
 rintro ⟨j,R⟩ ⟨⟨hj1,hj⟩,hR,ht,hdr⟩
 dsimp only at hj1 hj hR ht hdr
 dsimp only[z34_0,z34_0d,z35,Z24,Za,Zb,Zc,Ze,Zh]
 by_cases hj':j<F.length
 case neg=>
  obtain rfl:j=F.length:=by omega
  rw[List.take_length] at ht
  have hKl:=keep_len x0 F
  simp only[↓hcsBsX,entRgt,entHlp,entEnd,entLsP,entCiF,entCpF,entBst,entPow,entCop,entCiD,entCpD,undef,hj',hR,List.take_length,hxn,hxl,go_sem]
  try simp only[hj',hR,List.take_length,hxn,hxl,td,reduceCtorEq]
  exact ⟨⟨by omega,Int.le_refl _⟩,⟨Int.le_refl _,by rw[ht,List.length_append];omega⟩,hxl,by rw[ht,List.take_left]⟩
 have hjR:j<R.length:=by omega
 have w2:IntKind.i64.wrap ((j:Int)+1)=((j+1:Nat):Int):=i64_in _ (by omega)
 have hol:=keep_len x0 (F.take j)
 rw[List.length_take,Nat.min_eq_left hj] at hol
 have w3:IntKind.i64.wrap (((keepC x0 (F.take j)).length:Int)+1)=(((keepC x0 (F.take j)).length+1:Nat):Int):=i64_in _ (by omega)
 have hn:=keep_at (b:=x0) hj'
 have hoR:(keepC x0 (F.take j)).length<R.length:=by omega
 have hg:R.getD j dCase=F.getD j dCase:=by
  have h1:=congrArg (fun l:List DCase=>l.getD 0 dCase) hdr;simpa [List.getD,List.getElem?_drop] using h1
 have hd1:R.drop (j+1)=F.drop (j+1):=by
  have h1:=congrArg (List.drop 1) hdr;rw[List.drop_drop,List.drop_drop] at h1;exact h1
 obtain ⟨⟨et,en⟩,hE⟩:∃c:DCase,F.getD j dCase=c:=⟨_,rfl⟩
 have hel:et.length=x0.length:=by have:=hF (F.getD j dCase) (by simp[List.getD,hj']);rw[hE] at this;rw[h0];exact this
 rw[hE] at hn hg
 by_cases c:lessP et x0≥0
 ·rw[if_pos (show dropC x0 (et,en)=true from decide_eq_true c)] at hn
  simp only[↓hcsBsX,entRgt,entHlp,entEnd,entLsP,entCiF,entCpF,entBst,entPow,entCop,entCiD,entCpD,undef,hj',hR,hg,hel,w2,w3,c,hoR,go_sem]
  try simp only[hj',hR,hg,hel,w2,w3,c,hoR,td,reduceCtorEq]
  refine ⟨h0▸ho,?_⟩
  exact ⟨(j+1,R),by dsimp only;omega,⟨⟨by dsimp only;omega,by dsimp only;omega⟩,hR,by dsimp only;rw[hn];exact ht,hd1⟩,⟨rfl,by dsimp only;rw[hn]⟩,rfl⟩
 ·rw[if_neg (by rw[show dropC x0 (et,en)=false from decide_eq_false c];exact Bool.false_ne_true)] at hn
  simp only[↓hcsBsX,entRgt,entHlp,entEnd,entLsP,entCiF,entCpF,entBst,entPow,entCop,entCiD,entCpD,undef,hj',hR,hg,hel,w2,w3,c,hoR,go_sem]
  try simp only[hj',hR,hg,hel,w2,w3,c,hoR,td,reduceCtorEq]
  have hs:(R.set (keepC x0 (F.take j)).length (et,en)).take ((keepC x0 (F.take j)).length+1)=keepC x0 (F.take j)++[(et,en)]:=by
   rw[List.set_eq_take_append_cons_drop,if_pos hoR,ht,List.take_append,List.take_of_length_le (by omega),show (keepC x0 (F.take j)).length+1-(keepC x0 (F.take j)).length=1 by omega];rfl
  refine ⟨h0▸ho,by omega,(j+1,R.set (keepC x0 (F.take j)).length (et,en)),by dsimp only;omega,⟨⟨by dsimp only;omega,by dsimp only;omega⟩,by dsimp only;rw[List.length_set];exact hR,?_,?_⟩,⟨rfl,?_⟩,rfl⟩
  ·dsimp only
   rw[hn,List.length_append,List.length_singleton]
   exact hs
  ·dsimp only
   rw[List.drop_set_of_lt (by omega)]
   exact hd1
  ·dsimp only
   rw[hn,List.length_append,List.length_singleton]
end T
end Go.Proofs.YtpocfbfmjippnaaGreat
end
