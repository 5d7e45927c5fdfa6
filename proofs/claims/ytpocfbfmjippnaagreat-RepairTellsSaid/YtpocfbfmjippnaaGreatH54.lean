/- Parts of the proof of the law; no condition. -/
import Derived.Test.YtpocfbfmjippnaaGreatH46
set_option linter.all false
section
namespace Go.Proofs.YtpocfbfmjippnaaGreat
open Go.RowKit Go.IntWalk
namespace T
set_option pp.deepTerms true
set_option pp.maxSteps 1000000
def atLk (n:Nat) (N:Int) (A:List DArc) (C:List DCar) (Q:List DReq) (P:List DPair) (S1 S2 S3:Int) (ps hs P':List DPlan) (b q q2 i:Int) (to:List (Nat×AV)) (tohp:List (Nat×OB)) (acc:DRep) (kv:List Nat) (nx:Nat):AS:=
 ⟨to++[(0,.ptr 26 0),(2,.val (.sl (.st (.cons (.int .i64) (.cons (.sl (.st (.cons (.int .i64) .bool))) (.cons (.sl (.st (.cons (.int .i64) (.int .i64)))) (.sl (.int .i64))))))) P'),(149,.ptr 26 0),(150,.val (.sl (.int .i64)) []),(151,.val (.sl (.st (.cons (.int .i64) (.cons (.sl (.st (.cons (.int .i64) .bool))) (.cons (.sl (.st (.cons (.int .i64) (.int .i64)))) (.sl (.int .i64))))))) hs),(155,.top),(157,.top),(158,.top),(160,.top),(161,.top),(162,.top),(163,.top),(167,.top),(168,.top),(177,.top),(178,.top),(179,.top),(241,.val (.sl (.st (.cons (.int .i64) (.cons (.sl (.st (.cons (.int .i64) .bool))) (.cons (.sl (.st (.cons (.int .i64) (.int .i64)))) (.sl (.int .i64))))))) hs),(242,.val (.int .i64) (hs.length:Int)),(243,.val (.int .i64) i),(298,.val (.st (.cons (.int .i64) (.cons (.sl (.st (.cons (.int .i64) (.cons (.int .i64) (.cons (.sl (.int .i64)) (.sl (.int .i64))))))) (.cons (.sl (.st (.cons (.int .i64) (.cons (.int .i64) (.cons (.int .i64) (.cons (.int .i64) (.cons (.int .i64) (.cons (.int .i64) (.cons (.int .i64) (.cons (.int .i64) (.int .i64))))))))))) (.cons (.sl (.st (.cons (.int .i64) (.cons (.int .i64) (.cons (.int .i64) (.cons (.int .i64) (.cons (.int .i64) (.cons (.int .i64) (.cons (.int .i64) (.cons (.int .i64) (.cons (.int .i64) (.int .i64)))))))))))) (.cons (.sl (.st (.cons (.int .i64) (.cons (.int .i64) .bool)))) (.st (.cons (.int .i64) (.cons (.int .i64) (.int .i64)))))))))) (N,A,C,Q,P,S1,S2,S3)),(299,.val (.sl (.st (.cons (.int .i64) (.cons (.sl (.st (.cons (.int .i64) .bool))) (.cons (.sl (.st (.cons (.int .i64) (.int .i64)))) (.sl (.int .i64))))))) ps),(300,.val (.int .i64) b),(301,.val (.sl (.int .i64)) [q,q2]),(302,.ptr 0 0),(306,.own 1),(307,.own 2),(308,.own 3),(309,.val (.int .i64) 0),(310,.val (.sl (.st (.cons (.int .i64) (.cons (.sl (.st (.cons (.int .i64) .bool))) (.cons (.sl (.st (.cons (.int .i64) (.int .i64)))) (.sl (.int .i64))))))) hs),(311,.ptr 27 0),(312,.top),(313,.top),(314,.top),(315,.top),(344,.top),(345,.top),(346,.top),(336,.ptr 26 0)],
  tohp++[(26,.box 78 [.val (.int .i64) N,.val (.sl (.st (.cons (.int .i64) (.cons (.int .i64) (.cons (.sl (.int .i64)) (.sl (.int .i64))))))) A,.val (.sl (.st (.cons (.int .i64) (.cons (.int .i64) (.cons (.int .i64) (.cons (.int .i64) (.cons (.int .i64) (.cons (.int .i64) (.cons (.int .i64) (.cons (.int .i64) (.int .i64))))))))))) C,.val (.sl (.st (.cons (.int .i64) (.cons (.int .i64) (.cons (.int .i64) (.cons (.int .i64) (.cons (.int .i64) (.cons (.int .i64) (.cons (.int .i64) (.cons (.int .i64) (.cons (.int .i64) (.int .i64)))))))))))) Q,.val (.sl (.st (.cons (.int .i64) (.cons (.int .i64) .bool)))) P,.val (.int .i64) S1,.val (.int .i64) S2,.val (.int .i64) S3,.val (.sl (.int .i64)) [q,q2],optAV (.int .i64) (toO acc.1),optAV (.st (.cons (.int .i64) (.cons (.sl (.st (.cons (.int .i64) .bool))) (.cons (.sl (.st (.cons (.int .i64) (.int .i64)))) (.sl (.int .i64)))))) (plO acc.1),.val (.int .i64) (enO acc.1),.own 29]),(29,.row 60 (.st (.cons (.sl (.int .i64)) (.int .i64))) acc.2),(27,.box 76 [.ptr 26 0]),(3,.row 60 (.st (.cons (.sl (.int .i64)) (.int .i64))) []),(2,.row 3 (.int .i64) []),(1,.row 65 (.st (.cons (.int .i64) (.cons (.sl (.st (.cons (.int .i64) .bool))) (.cons (.sl (.st (.cons (.int .i64) (.int .i64)))) (.sl (.int .i64)))))) []),(0,.box 39 [.val (.int .i64) N,.val (.sl (.st (.cons (.int .i64) (.cons (.int .i64) (.cons (.sl (.int .i64)) (.sl (.int .i64))))))) A,.val (.sl (.st (.cons (.int .i64) (.cons (.int .i64) (.cons (.int .i64) (.cons (.int .i64) (.cons (.int .i64) (.cons (.int .i64) (.cons (.int .i64) (.cons (.int .i64) (.int .i64))))))))))) C,.val (.sl (.st (.cons (.int .i64) (.cons (.int .i64) (.cons (.int .i64) (.cons (.int .i64) (.cons (.int .i64) (.cons (.int .i64) (.cons (.int .i64) (.cons (.int .i64) (.cons (.int .i64) (.int .i64)))))))))))) Q,.val (.sl (.st (.cons (.int .i64) (.cons (.int .i64) .bool)))) P,.val (.int .i64) S1,.val (.int .i64) S2,.val (.int .i64) S3])],nx,kv⟩
def endLk1 (N:Int) (A:List DArc) (C:List DCar) (Q:List DReq) (P:List DPair) (S1 S2 S3:Int) (ps hs P':List DPlan) (b q q2 i t:Int) (x:List Int×List DPlan×Int) (D:List DCase):AS:=⟨[(148,.tup []),(0,.ptr 26 0),(1,.val (.sl (.int .i64)) [t]),(2,.val (.sl (.st (.cons (.int .i64) (.cons (.sl (.st (.cons (.int .i64) .bool))) (.cons (.sl (.st (.cons (.int .i64) (.int .i64)))) (.sl (.int .i64))))))) P'),(6,.top),(8,.top),(9,.top),(11,.top),(12,.top),(13,.top),(14,.top),(18,.top),(19,.top),(28,.top),(29,.top),(30,.top),(92,.val (.sl (.st (.cons (.int .i64) (.cons (.sl (.st (.cons (.int .i64) .bool))) (.cons (.sl (.st (.cons (.int .i64) (.int .i64)))) (.sl (.int .i64))))))) P'),(93,.val (.int .i64) (P'.length:Int)),(94,.val (.int .i64) (P'.length:Int)),(149,.ptr 26 0),(150,.val (.sl (.int .i64)) []),(151,.val (.sl (.st (.cons (.int .i64) (.cons (.sl (.st (.cons (.int .i64) .bool))) (.cons (.sl (.st (.cons (.int .i64) (.int .i64)))) (.sl (.int .i64))))))) hs),(155,.top),(157,.top),(158,.top),(160,.top),(161,.top),(162,.top),(163,.top),(167,.top),(168,.top),(177,.top),(178,.top),(179,.top),(241,.val (.sl (.st (.cons (.int .i64) (.cons (.sl (.st (.cons (.int .i64) .bool))) (.cons (.sl (.st (.cons (.int .i64) (.int .i64)))) (.sl (.int .i64))))))) hs),(242,.val (.int .i64) (hs.length:Int)),(243,.val (.int .i64) i),(298,.val (.st (.cons (.int .i64) (.cons (.sl (.st (.cons (.int .i64) (.cons (.int .i64) (.cons (.sl (.int .i64)) (.sl (.int .i64))))))) (.cons (.sl (.st (.cons (.int .i64) (.cons (.int .i64) (.cons (.int .i64) (.cons (.int .i64) (.cons (.int .i64) (.cons (.int .i64) (.cons (.int .i64) (.cons (.int .i64) (.int .i64))))))))))) (.cons (.sl (.st (.cons (.int .i64) (.cons (.int .i64) (.cons (.int .i64) (.cons (.int .i64) (.cons (.int .i64) (.cons (.int .i64) (.cons (.int .i64) (.cons (.int .i64) (.cons (.int .i64) (.int .i64)))))))))))) (.cons (.sl (.st (.cons (.int .i64) (.cons (.int .i64) .bool)))) (.st (.cons (.int .i64) (.cons (.int .i64) (.int .i64)))))))))) (N,A,C,Q,P,S1,S2,S3)),(299,.val (.sl (.st (.cons (.int .i64) (.cons (.sl (.st (.cons (.int .i64) .bool))) (.cons (.sl (.st (.cons (.int .i64) (.int .i64)))) (.sl (.int .i64))))))) ps),(300,.val (.int .i64) b),(301,.val (.sl (.int .i64)) [q,q2]),(302,.ptr 0 0),(306,.own 1),(307,.own 2),(308,.own 3),(309,.val (.int .i64) 0),(310,.val (.sl (.st (.cons (.int .i64) (.cons (.sl (.st (.cons (.int .i64) .bool))) (.cons (.sl (.st (.cons (.int .i64) (.int .i64)))) (.sl (.int .i64))))))) hs),(311,.ptr 27 0),(312,.top),(313,.top),(314,.top),(315,.top),(344,.top),(345,.top),(346,.top),(336,.ptr 26 0)],[(26,.box 78 [.val (.int .i64) N,.val (.sl (.st (.cons (.int .i64) (.cons (.int .i64) (.cons (.sl (.int .i64)) (.sl (.int .i64))))))) A,.val (.sl (.st (.cons (.int .i64) (.cons (.int .i64) (.cons (.int .i64) (.cons (.int .i64) (.cons (.int .i64) (.cons (.int .i64) (.cons (.int .i64) (.cons (.int .i64) (.int .i64))))))))))) C,.val (.sl (.st (.cons (.int .i64) (.cons (.int .i64) (.cons (.int .i64) (.cons (.int .i64) (.cons (.int .i64) (.cons (.int .i64) (.cons (.int .i64) (.cons (.int .i64) (.cons (.int .i64) (.int .i64)))))))))))) Q,.val (.sl (.st (.cons (.int .i64) (.cons (.int .i64) .bool)))) P,.val (.int .i64) S1,.val (.int .i64) S2,.val (.int .i64) S3,.val (.sl (.int .i64)) [q,q2],.val (.sl (.int .i64)) x.1,.val (.sl (.st (.cons (.int .i64) (.cons (.sl (.st (.cons (.int .i64) .bool))) (.cons (.sl (.st (.cons (.int .i64) (.int .i64)))) (.sl (.int .i64))))))) x.2.1,.val (.int .i64) x.2.2,.own 29]),(27,.box 76 [.ptr 26 0]),(3,.row 60 (.st (.cons (.sl (.int .i64)) (.int .i64))) []),(2,.row 3 (.int .i64) []),(1,.row 65 (.st (.cons (.int .i64) (.cons (.sl (.st (.cons (.int .i64) .bool))) (.cons (.sl (.st (.cons (.int .i64) (.int .i64)))) (.sl (.int .i64)))))) []),(0,.box 39 [.val (.int .i64) N,.val (.sl (.st (.cons (.int .i64) (.cons (.int .i64) (.cons (.sl (.int .i64)) (.sl (.int .i64))))))) A,.val (.sl (.st (.cons (.int .i64) (.cons (.int .i64) (.cons (.int .i64) (.cons (.int .i64) (.cons (.int .i64) (.cons (.int .i64) (.cons (.int .i64) (.cons (.int .i64) (.int .i64))))))))))) C,.val (.sl (.st (.cons (.int .i64) (.cons (.int .i64) (.cons (.int .i64) (.cons (.int .i64) (.cons (.int .i64) (.cons (.int .i64) (.cons (.int .i64) (.cons (.int .i64) (.cons (.int .i64) (.int .i64)))))))))))) Q,.val (.sl (.st (.cons (.int .i64) (.cons (.int .i64) .bool)))) P,.val (.int .i64) S1,.val (.int .i64) S2,.val (.int .i64) S3]),(29,.row 60 (.st (.cons (.sl (.int .i64)) (.int .i64))) D)],2049,[0,1,2,6,8,9,11,12,13,14,18,19,28,29,30,92,93,94,149,150,151,155,157,158,160,161,162,163,167,168,177,178,179,241,242,243,298,299,300,301,302,306,307,308,309,310,311,312,313,314,315,344,345,346,336]⟩
def endLk2 (N:Int) (A:List DArc) (C:List DCar) (Q:List DReq) (P:List DPair) (S1 S2 S3:Int) (ps hs P':List DPlan) (b q q2 i t:Int) (x:List Int×List DPlan×Int) (D:List DCase):AS:=⟨[(148,.tup []),(0,.ptr 26 0),(1,.val (.sl (.int .i64)) [t]),(2,.val (.sl (.st (.cons (.int .i64) (.cons (.sl (.st (.cons (.int .i64) .bool))) (.cons (.sl (.st (.cons (.int .i64) (.int .i64)))) (.sl (.int .i64))))))) P'),(6,.top),(8,.top),(9,.top),(11,.top),(12,.top),(13,.top),(14,.top),(18,.top),(19,.top),(28,.top),(29,.top),(30,.top),(92,.val (.sl (.st (.cons (.int .i64) (.cons (.sl (.st (.cons (.int .i64) .bool))) (.cons (.sl (.st (.cons (.int .i64) (.int .i64)))) (.sl (.int .i64))))))) P'),(93,.val (.int .i64) (P'.length:Int)),(94,.val (.int .i64) (P'.length:Int)),(149,.ptr 26 0),(150,.val (.sl (.int .i64)) []),(151,.val (.sl (.st (.cons (.int .i64) (.cons (.sl (.st (.cons (.int .i64) .bool))) (.cons (.sl (.st (.cons (.int .i64) (.int .i64)))) (.sl (.int .i64))))))) hs),(155,.top),(157,.top),(158,.top),(160,.top),(161,.top),(162,.top),(163,.top),(167,.top),(168,.top),(177,.top),(178,.top),(179,.top),(241,.val (.sl (.st (.cons (.int .i64) (.cons (.sl (.st (.cons (.int .i64) .bool))) (.cons (.sl (.st (.cons (.int .i64) (.int .i64)))) (.sl (.int .i64))))))) hs),(242,.val (.int .i64) (hs.length:Int)),(243,.val (.int .i64) i),(298,.val (.st (.cons (.int .i64) (.cons (.sl (.st (.cons (.int .i64) (.cons (.int .i64) (.cons (.sl (.int .i64)) (.sl (.int .i64))))))) (.cons (.sl (.st (.cons (.int .i64) (.cons (.int .i64) (.cons (.int .i64) (.cons (.int .i64) (.cons (.int .i64) (.cons (.int .i64) (.cons (.int .i64) (.cons (.int .i64) (.int .i64))))))))))) (.cons (.sl (.st (.cons (.int .i64) (.cons (.int .i64) (.cons (.int .i64) (.cons (.int .i64) (.cons (.int .i64) (.cons (.int .i64) (.cons (.int .i64) (.cons (.int .i64) (.cons (.int .i64) (.int .i64)))))))))))) (.cons (.sl (.st (.cons (.int .i64) (.cons (.int .i64) .bool)))) (.st (.cons (.int .i64) (.cons (.int .i64) (.int .i64)))))))))) (N,A,C,Q,P,S1,S2,S3)),(299,.val (.sl (.st (.cons (.int .i64) (.cons (.sl (.st (.cons (.int .i64) .bool))) (.cons (.sl (.st (.cons (.int .i64) (.int .i64)))) (.sl (.int .i64))))))) ps),(300,.val (.int .i64) b),(301,.val (.sl (.int .i64)) [q,q2]),(302,.ptr 0 0),(306,.own 1),(307,.own 2),(308,.own 3),(309,.val (.int .i64) 0),(310,.val (.sl (.st (.cons (.int .i64) (.cons (.sl (.st (.cons (.int .i64) .bool))) (.cons (.sl (.st (.cons (.int .i64) (.int .i64)))) (.sl (.int .i64))))))) hs),(311,.ptr 27 0),(312,.top),(313,.top),(314,.top),(315,.top),(344,.top),(345,.top),(346,.top),(336,.ptr 26 0)],[(27,.box 76 [.ptr 26 0]),(3,.row 60 (.st (.cons (.sl (.int .i64)) (.int .i64))) []),(2,.row 3 (.int .i64) []),(1,.row 65 (.st (.cons (.int .i64) (.cons (.sl (.st (.cons (.int .i64) .bool))) (.cons (.sl (.st (.cons (.int .i64) (.int .i64)))) (.sl (.int .i64)))))) []),(0,.box 39 [.val (.int .i64) N,.val (.sl (.st (.cons (.int .i64) (.cons (.int .i64) (.cons (.sl (.int .i64)) (.sl (.int .i64))))))) A,.val (.sl (.st (.cons (.int .i64) (.cons (.int .i64) (.cons (.int .i64) (.cons (.int .i64) (.cons (.int .i64) (.cons (.int .i64) (.cons (.int .i64) (.cons (.int .i64) (.int .i64))))))))))) C,.val (.sl (.st (.cons (.int .i64) (.cons (.int .i64) (.cons (.int .i64) (.cons (.int .i64) (.cons (.int .i64) (.cons (.int .i64) (.cons (.int .i64) (.cons (.int .i64) (.cons (.int .i64) (.int .i64)))))))))))) Q,.val (.sl (.st (.cons (.int .i64) (.cons (.int .i64) .bool)))) P,.val (.int .i64) S1,.val (.int .i64) S2,.val (.int .i64) S3]),(26,.box 78 [.val (.int .i64) N,.val (.sl (.st (.cons (.int .i64) (.cons (.int .i64) (.cons (.sl (.int .i64)) (.sl (.int .i64))))))) A,.val (.sl (.st (.cons (.int .i64) (.cons (.int .i64) (.cons (.int .i64) (.cons (.int .i64) (.cons (.int .i64) (.cons (.int .i64) (.cons (.int .i64) (.cons (.int .i64) (.int .i64))))))))))) C,.val (.sl (.st (.cons (.int .i64) (.cons (.int .i64) (.cons (.int .i64) (.cons (.int .i64) (.cons (.int .i64) (.cons (.int .i64) (.cons (.int .i64) (.cons (.int .i64) (.cons (.int .i64) (.int .i64)))))))))))) Q,.val (.sl (.st (.cons (.int .i64) (.cons (.int .i64) .bool)))) P,.val (.int .i64) S1,.val (.int .i64) S2,.val (.int .i64) S3,.val (.sl (.int .i64)) [q,q2],.val (.sl (.int .i64)) x.1,.val (.sl (.st (.cons (.int .i64) (.cons (.sl (.st (.cons (.int .i64) .bool))) (.cons (.sl (.st (.cons (.int .i64) (.int .i64)))) (.sl (.int .i64))))))) x.2.1,.val (.int .i64) x.2.2,.own 29]),(29,.row 60 (.st (.cons (.sl (.int .i64)) (.int .i64))) D)],2032,[0,1,2,6,8,9,11,12,13,14,18,19,28,29,30,92,93,94,149,150,151,155,157,158,160,161,162,163,167,168,177,178,179,241,242,243,298,299,300,301,302,306,307,308,309,310,311,312,313,314,315,344,345,346,336]⟩
set_option maxHeartbeats 4000000 in
theorem look1 {N:Int} {A:List DArc} {C:List DCar} {Q:List DReq} {P:List DPair} {S1 S2 S3:Int} {ps hs P':List DPlan} {b q q2 i t:Int} {acc:DRep} (hok:OkA 2 acc) (hal:acc.2.length≤1000) (h3:P'.length≤3) (hn:P'.length=hs.length) (hPx:∀p∈P',p.2.1.length≤18) {Z:XQ}
  (hZ:∀x D,lookF (N,A,C,Q,P,S1,S2,S3) P'.length [q2] [t] P' acc=(some x,D)→Z .normal (endLk1 N A C Q P S1 S2 S3 ps hs P' b q q2 i t x D)∧Z .normal (endLk2 N A C Q P S1 S2 S3 ps hs P' b q q2 i t x D)):XW Tryz.prog csBsX 149 w33_t Z (atLk 0 N A C Q P S1 S2 S3 ps hs P' b q q2 i [(1,.own 28)] [(28,.row 3 (.int .i64) [t])] acc [0,1,2,6,8,9,11,12,13,14,18,19,28,29,30,92,93,94,149,150,151,155,157,158,160,161,162,163,167,168,177,178,179,241,242,243,298,299,300,301,302,306,307,308,309,310,311,312,313,314,315,344,345,346,336] 900):=by
 refine XW_of ?_
 dsimp only[atLk,w33_t,List.cons_append,List.nil_append]
 simp only[↓hcsBsX,entRgt,entHlp,entEnd,entLsP,entCiF,entCpF,entBst,entPow,entCop,entCiD,entCpD,undef,oy,go_sem]
 refine XW_top (XW_frz 1 28 rfl rfl (XW_of ?_))
 dsimp only
 have n12:(((1:Nat):Int)==((2:Nat):Int))=false:=rfl
 simp only[↓hcsBsX,entRgt,entHlp,entEnd,entLsP,entCiF,entCpF,entBst,entPow,entCop,entCiD,entCpD,undef,n12,oy,go_sem]
 try simp only[n12,oy,td,reduceCtorEq]
 obtain ⟨B,b0,b1,b2⟩:=kid_at (N,A,C,Q,P,S1,S2,S3) P'.length (lookF (N,A,C,Q,P,S1,S2,S3) P'.length []) [t] q2 0 P' acc
 refine XW_for 1000 w33_1d [0,1,2,3,27] Nat (fun k=>[(94,.val Z1 (k:Int))]) (fun k=>[(26,.box 78 [.val Z1 N,.val Z13 A,.val Z20 C,.val Z7 Q,.val Z16 P,.val Z1 S1,.val Z1 S2,.val Z1 S3,.val Z5 [q,q2],optAV (.int .i64) (toO (B k).1),optAV Z22 (plO (B k).1),.val Z1 (enO (B k).1),.own 29]),(29,.row 60 Z24 (B k).2)]) (fun k=>k≤P'.length∧OkA 2 (B k)∧(B k).2.length≤1000+k) (fun k=>P'.length-k) 0 ?_ ?_ ?_
 ·dsimp only[w33_1d]
  simp only[b0,oy,go_sem]
  first|done|exact ⟨rfl,rfl⟩|rfl
 ·exact ⟨Nat.zero_le _,by rw[b0];exact hok,by rw[b0];omega⟩
 rintro k ⟨hk,hok,hkl⟩
 dsimp only[w33_1,w33_1d,v33,z69]
 by_cases hk':k<P'.length
 case neg=>
  obtain rfl:k=P'.length:=by omega
  have n22:(((2:Nat):Int)==((2:Nat):Int))=true:=rfl
  have hkI:¬(P'.length:Int)<(P'.length:Int):=by omega
  simp only[↓hcsBsX,entRgt,entHlp,entEnd,entLsP,entCiF,entCpF,entBst,entPow,entCop,entCiD,entCpD,undef,hk',hkI,oy,go_sem]
  try simp only[hk',hkI,oy,td,reduceCtorEq]
  refine XW_top (XW_frz 1 1005 rfl rfl (XW_of ?_))
  dsimp only
  simp only[↓hcsBsX,entRgt,entHlp,entEnd,entLsP,entCiF,entCpF,entBst,entPow,entCop,entCiD,entCpD,undef,n22,oy,go_sem]
  try simp only[n22,oy,td,reduceCtorEq]
  refine XW_for 2000 v33_0d [0,1,2,3,26,27,29] Nat (fun i=>[(30,.val Z1 (i:Int)),(6,.val Z1 (endsR (N,A,C,Q,P,S1,S2,S3) (P'.take i)))]) (fun _=>[]) (fun i=>i≤P'.length) (fun i=>P'.length-i) 0 ?_ ?_ ?_
  ·dsimp only[v33_0d]
   simp only[oy,go_sem]
   first|done|exact ⟨rfl,rfl⟩|rfl
  ·exact Nat.zero_le _
  intro i hi
  dsimp only[v33_0,v33_0d]
  by_cases hi':i<P'.length
  case pos=>
   have wi:IntKind.i64.wrap ((i:Int)+1)=((i+1:Nat):Int):=i64_in _ (by omega)
   have hpi:=hPx (P'.getD i dPln) (by simp[List.getD,hi'])
   have he1:=endsR_at (w:=(N,A,C,Q,P,S1,S2,S3)) hi'
   have he2:=endsR_rng (N,A,C,Q,P,S1,S2,S3) (P'.take (i+1))
   rw[List.length_take] at he2
   dsimp only[dPln] at hpi he1
   obtain ⟨⟨pc,pss,pL,pG⟩,hPi⟩:∃p:DPlan,P'.getD i (0,[],[],[])=p:=⟨_,rfl⟩
   rw[hPi] at hpi he1
   have hp24:pss.length≤24:=Nat.le_trans hpi (by decide)
   have we:IntKind.i64.wrap (endsR (N,A,C,Q,P,S1,S2,S3) (P'.take i)+(endP (N,A,C,Q,P,S1,S2,S3) (pc,pss,pL,pG)).1)=endsR (N,A,C,Q,P,S1,S2,S3) (P'.take (i+1)):=by
    rw[←he1];exact i64_in _ (by omega)
   simp only[↓hcsBsX,entRgt,entHlp,entEnd,entLsP,entCiF,entCpF,entBst,entPow,entCop,entCiD,entCpD,undef,hi',hPi,hp24,wi,we,oy,go_sem]
   try simp only[hi',hPi,hp24,wi,we,oy,td,reduceCtorEq]
   exact ⟨i+1,by omega,hi',rfl,rfl⟩
  have hi2:i=P'.length:=by omega
  rw[hi2,List.take_length]
  rw[hi2] at hi'
  clear hi hi2
  have hPm:P'.length≤1000000:=by omega
  have hS:lookF (N,A,C,Q,P,S1,S2,S3) P'.length [q2] [t] P' acc=(leafR [t,-1] P' (endsR (N,A,C,Q,P,S1,S2,S3) P') (B P'.length).1,(B P'.length).2):=by
   show lookF (N,A,C,Q,P,S1,S2,S3) P'.length [] ([t]++[-1]) P' _=_;rw[show (List.range P'.length).foldl (kidF (N,A,C,Q,P,S1,S2,S3) P'.length (lookF (N,A,C,Q,P,S1,S2,S3) P'.length []) [t] q2 ([]:List Int).length P') acc=B P'.length from b2];rfl
  have nl1:(2:Nat)≤1000:=by decide
  have n00:¬(0:Int)<0:=by decide
  cases hBk:(B P'.length).1 with
  |none=>
   rw[hBk,leafR_none] at hS
   simp only[↓hcsBsX,↓hdBsX,entRgt,entHlp,entEnd,entLsP,entCiF,entCpF,entBst,entPow,entCop,entCiD,entCpD,undef,hi',hBk,hPm,oy,go_sem]
   try simp only[hi',hBk,hPm,oy,td,reduceCtorEq]
   exact (hZ _ _ hS).1
  |some y=>
  obtain ⟨y0,yl,yn⟩:=y
  have hy:y0.length=2:=hok.best _ hBk
  have hyn:y0≠[]:=fun z=>by rw[z] at hy;cases hy
  rw[hBk] at hS
  obtain ⟨z,hz⟩:∃z,lessP [t,-1] y0=z:=⟨_,rfl⟩
  by_cases c1:z<0
  ·rw[leafR_yes (.inl (by rw[hz];exact c1))] at hS
   simp only[↓hcsBsX,↓hdBsX,entRgt,entHlp,entEnd,entLsP,entCiF,entCpF,entBst,entPow,entCop,entCiD,entCpD,undef,hi',hBk,hPm,hy,hyn,hz,c1,nl1,oy,go_sem]
   try simp only[hi',hBk,hPm,hy,hyn,hz,c1,nl1,oy,td,reduceCtorEq]
   exact (hZ _ _ hS).1
  by_cases c2:z=0
  ·subst c2
   by_cases c3:endsR (N,A,C,Q,P,S1,S2,S3) P'<yn
   ·rw[leafR_yes (.inr ⟨hz,c3⟩)] at hS
    simp only[↓hcsBsX,↓hdBsX,entRgt,entHlp,entEnd,entLsP,entCiF,entCpF,entBst,entPow,entCop,entCiD,entCpD,undef,hi',hBk,hPm,hy,hyn,hz,c3,n00,nl1,oy,go_sem]
    try simp only[hi',hBk,hPm,hy,hyn,hz,c3,n00,nl1,oy,td,reduceCtorEq]
    exact (hZ _ _ hS).1
   ·rw[leafR_no (by rw[hz];exact c1) (fun w=>c3 w.2)] at hS
    simp only[↓hcsBsX,↓hdBsX,entRgt,entHlp,entEnd,entLsP,entCiF,entCpF,entBst,entPow,entCop,entCiD,entCpD,undef,hi',hBk,hPm,hy,hyn,hz,c3,n00,nl1,oy,go_sem]
    try simp only[hi',hBk,hPm,hy,hyn,hz,c3,n00,nl1,oy,td,reduceCtorEq]
    exact (hZ _ _ hS).2
  ·rw[leafR_no (by rw[hz];exact c1) (fun w=>c2 (hz.symm.trans w.1))] at hS
   simp only[↓hcsBsX,↓hdBsX,entRgt,entHlp,entEnd,entLsP,entCiF,entCpF,entBst,entPow,entCop,entCiD,entCpD,undef,hi',hBk,hPm,hy,hyn,hz,c1,c2,nl1,oy,go_sem]
   try simp only[hi',hBk,hPm,hy,hyn,hz,c1,c2,nl1,oy,td,reduceCtorEq]
   exact (hZ _ _ hS).2
 have w1:IntKind.i64.wrap ((k:Int)+1)=((k+1:Nat):Int):=i64_in _ (by omega)
 have hpk:=hPx (P'.getD k dPln) (by simp[List.getD,hk'])
 have b1:=b1 k
 unfold kidF at b1
 have hbl:=bst_len (w:=(N,A,C,Q,P,S1,S2,S3)) (p:=P'.getD k dPln) (q:=q2)
 dsimp only[dPln] at hpk b1 hbl
 obtain ⟨⟨c,ss,L,G⟩,hP⟩:∃p:DPlan,P'.getD k (0,[],[],[])=p:=⟨_,rfl⟩
 rw[hP] at hpk b1 hbl
 dsimp only at hpk
 have hp20:ss.length≤20:=by omega
 unfold bstP at b1 hbl
 obtain ⟨⟨⟨x1,x2,x3,x4⟩,y1,y2,y3,e⟩,hB⟩:∃X:DPlan×Int×Int×List DPlace×Int,bestF (N,A,C,Q,P,S1,S2,S3) (c,ss,L,G) q2=X:=⟨_,rfl⟩
 rw[hB] at b1 hbl
 dsimp only at b1 hbl
 have wh:IntKind.i64.wrap ((P'.length:Int)+1)=((P'.length+1:Nat):Int):=i64_in _ (by omega)
 have w11:IntKind.i64.wrap (((2:Nat):Int)-((2:Nat):Int))=0:=by decide
 have w10:IntKind.i64.wrap (((2:Nat):Int)-1)=1:=by decide
 have wm1:IntKind.i64.wrap (0-1)= -1:=by decide
 have n22:(((2:Nat):Int)==((2:Nat):Int))=true:=rfl
 have hpw:∀n,powF n 0=1:=fun n=>rfl
 have hp0:(0:Int)≤((P'.length+1:Nat):Int):=by omega
 have hp4:((P'.length+1:Nat):Int)≤4:=by omega
 have le0:(0:Int)≤0:=by decide
 have le04:(0:Int)≤4:=by decide
 by_cases he:e=0
 case neg=>
  rw[if_pos he] at b1
  simp only[↓hcsBsX,entRgt,entHlp,entEnd,entLsP,entCiF,entCpF,entBst,entPow,entCop,entCiD,entCpD,undef,hk',hP,hp20,hB,he,wh,w11,w10,hpw,hp0,hp4,le0,le04,Int.toNat_zero,oy,go_sem]
  try simp only[hk',hP,hp20,hB,he,wh,w11,w10,hpw,hp0,hp4,le0,le04,Int.toNat_zero,oy,td,reduceCtorEq]
  refine ⟨Nat.one_lt_two,?_⟩
  refine XW_for 2000 z69_0d [0,1,2,3,27,1011] Nat (fun u=>[(25,.val Z1 (u:Int))]) (fun u=>[(26,.box 78 [.val Z1 N,.val Z13 A,.val Z20 C,.val Z7 Q,.val Z16 P,.val Z1 S1,.val Z1 S2,.val Z1 S3,.val Z5 [q,q2],optAV (.int .i64) (toO ((B k).1,(B k).2++([([t,(k:Int)],1)]:List DCase).take u).1),optAV Z22 (plO ((B k).1,(B k).2++([([t,(k:Int)],1)]:List DCase).take u).1),.val Z1 (enO ((B k).1,(B k).2++([([t,(k:Int)],1)]:List DCase).take u).1),.own 29]),(29,.row 60 Z24 ((B k).1,(B k).2++([([t,(k:Int)],1)]:List DCase).take u).2)]) (fun u=>u≤1) (fun u=>1-u) 0 ?_ ?_ ?_
  ·dsimp only[z69_0d]
   simp only[List.take_zero,List.append_nil,oy,go_sem]
   first|done|exact ⟨rfl,rfl⟩|rfl
  ·exact Nat.zero_le _
  intro u hu
  dsimp only[z69_0,z69_0d]
  by_cases hu':u<1
  case neg=>
   obtain rfl:u=1:=by omega
   have c1:¬((1:Nat):Int)<1:=by decide
   simp only[↓hcsBsX,entRgt,entHlp,entEnd,entLsP,entCiF,entCpF,entBst,entPow,entCop,entCiD,entCpD,undef,c1,w1,oy,go_sem]
   try simp only[c1,w1,oy,td,reduceCtorEq]
   have b2':B (k+1)=((B k).1,(B k).2++[([t,(k:Int)],1)]):=b1
   refine ⟨k+1,by omega,⟨by omega,by rw[b2'];exact hok.fail P'.length 0 (to:=[t]) (k:Int) 1 rfl,by rw[b2',List.length_append,List.length_singleton];omega⟩,rfl,?_⟩
   rw[b2']
   simp only[oy,td,reduceCtorEq]
   first|done|rfl
  obtain rfl:u=0:=by omega
  have c0:((0:Nat):Int)<1:=by decide
  have hb32:((B k).2.length+1)*32≤140737488355328:=by omega
  simp only[↓hcsBsX,entRgt,entHlp,entEnd,entLsP,entCiF,entCpF,entBst,entPow,entCop,entCiD,entCpD,undef,c0,w11,wm1,oy,go_sem]
  try simp only[c0,w11,wm1,oy,td,reduceCtorEq]
  refine XW_for 3000 z69_1d [0,1,2,3,26,27,29,1011,2004] Nat (fun _=>[(9,.val Z1 (-1)),(8,.own 2004)]) (fun _=>[]) (fun _=>True) (fun _=>0) 0 ?_ ?_ ?_
  ·dsimp only[z69_1d]
   simp only[oy,go_sem]
   first|done|exact ⟨rfl,rfl⟩|rfl
  ·trivial
  intro _ _
  dsimp only[z69_1,z69_1d]
  have g1:¬(-1:Int)≥0:=by decide
  have t0:IntKind.i64.wrap (((0:Nat):Int)+1)=((1:Nat):Int):=by decide
  simp only[↓hcsBsX,entRgt,entHlp,entEnd,entLsP,entCiF,entCpF,entBst,entPow,entCop,entCiD,entCpD,undef,g1,t0,hb32,oy,go_sem]
  try simp only[g1,t0,hb32,oy,td,reduceCtorEq]
  exact ⟨1,by decide,Nat.le_refl _,rfl,rfl⟩
 subst he
 rw[if_neg (by decide)] at b1
 have b1:B (k+1)=(leafR [t,(k:Int)] (P'.set k (x1,x2,x3,x4)) (endsR (N,A,C,Q,P,S1,S2,S3) (P'.set k (x1,x2,x3,x4))) (B k).1,(B k).2):=b1
 simp only[↓hcsBsX,entRgt,entHlp,entEnd,entLsP,entCiF,entCpF,entBst,entPow,entCop,entCiD,entCpD,undef,hk',hP,hp20,hB,oy,go_sem]
 try simp only[hk',hP,hp20,hB,oy,td,reduceCtorEq]
 refine ⟨Nat.one_lt_two,by omega,?_⟩
 obtain ⟨P2,hP2⟩:∃P2:List DPlan,P'.set k (x1,x2,x3,x4)=P2:=⟨_,rfl⟩
 have hP2l:P2.length=P'.length:=by rw[←hP2,List.length_set]
 rw[hP2] at b1⊢
 refine XW_top (XW_frz 19 1042 rfl rfl (XW_of ?_))
 dsimp only
 simp only[↓hcsBsX,entRgt,entHlp,entEnd,entLsP,entCiF,entCpF,entBst,entPow,entCop,entCiD,entCpD,undef,oy,go_sem]
 refine XW_top (XW_frz 1 1011 rfl rfl (XW_of ?_))
 dsimp only
 simp only[↓hcsBsX,entRgt,entHlp,entEnd,entLsP,entCiF,entCpF,entBst,entPow,entCop,entCiD,entCpD,undef,n22,oy,go_sem]
 try simp only[n22,oy,td,reduceCtorEq]
 have hx2:x2.length=ss.length+2:=(hbl rfl).1
 have hPl:∀p∈P2,p.2.1.length≤20:=by rw[←hP2];exact set_lens hPx (show x2.length≤18+2 by omega)
 have hlf:OkA 2 (B (k+1)):=by rw[b1];exact hok.leaf rfl _ _
 have hll:(B (k+1)).2.length≤1000+(k+1):=by rw[b1];show (B k).2.length≤_;omega
 refine XW_for 2000 v33_0d [0,1,2,3,26,27,29] Nat (fun i=>[(30,.val Z1 (i:Int)),(6,.val Z1 (endsR (N,A,C,Q,P,S1,S2,S3) (P2.take i)))]) (fun _=>[]) (fun i=>i≤P2.length) (fun i=>P2.length-i) 0 ?_ ?_ ?_
 ·dsimp only[v33_0d]
  simp only[oy,go_sem]
  first|done|exact ⟨rfl,rfl⟩|rfl
 ·exact Nat.zero_le _
 intro i hi
 dsimp only[v33_0,v33_0d]
 by_cases hi':i<P2.length
 case pos=>
  have wi:IntKind.i64.wrap ((i:Int)+1)=((i+1:Nat):Int):=i64_in _ (by omega)
  have hpi:=hPl (P2.getD i dPln) (by simp[List.getD,hi'])
  have he1:=endsR_at (w:=(N,A,C,Q,P,S1,S2,S3)) hi'
  have he2:=endsR_rng (N,A,C,Q,P,S1,S2,S3) (P2.take (i+1))
  rw[List.length_take] at he2
  dsimp only[dPln] at hpi he1
  obtain ⟨⟨pc,pss,pL,pG⟩,hPi⟩:∃p:DPlan,P2.getD i (0,[],[],[])=p:=⟨_,rfl⟩
  rw[hPi] at hpi he1
  have hp24:pss.length≤24:=Nat.le_trans hpi (by decide)
  have we:IntKind.i64.wrap (endsR (N,A,C,Q,P,S1,S2,S3) (P2.take i)+(endP (N,A,C,Q,P,S1,S2,S3) (pc,pss,pL,pG)).1)=endsR (N,A,C,Q,P,S1,S2,S3) (P2.take (i+1)):=by
   rw[←he1];exact i64_in _ (by omega)
  simp only[↓hcsBsX,entRgt,entHlp,entEnd,entLsP,entCiF,entCpF,entBst,entPow,entCop,entCiD,entCpD,undef,hi',hPi,hp24,wi,we,oy,go_sem]
  try simp only[hi',hPi,hp24,wi,we,oy,td,reduceCtorEq]
  exact ⟨i+1,by omega,hi',rfl,rfl⟩
 have hi2:i=P2.length:=by omega
 rw[hi2,List.take_length]
 rw[hi2] at hi'
 clear hi hi2
 have hPm:P2.length≤1000000:=by omega
 have nl1:(2:Nat)≤1000:=by decide
 have n00:¬(0:Int)<0:=by decide
 cases hBk:(B k).1 with
 |none=>
  rw[hBk,leafR_none] at b1
  simp only[↓hcsBsX,↓hdBsX,entRgt,entHlp,entEnd,entLsP,entCiF,entCpF,entBst,entPow,entCop,entCiD,entCpD,undef,hi',hBk,hPm,w1,oy,go_sem]
  try simp only[hi',hBk,hPm,w1,oy,td,reduceCtorEq]
  refine ⟨k+1,by omega,⟨hk',hlf,hll⟩,rfl,?_⟩
  rw[b1]
  simp only[oy,go_sem]
  first|done|exact ⟨⟨rfl,rfl⟩,rfl⟩|rfl
 |some y=>
 obtain ⟨y0,yl,yn⟩:=y
 have hy:y0.length=2:=hok.best _ hBk
 have hyn:y0≠[]:=fun z=>by rw[z] at hy;cases hy
 rw[hBk] at b1
 obtain ⟨z,hz⟩:∃z,lessP [t,(k:Int)] y0=z:=⟨_,rfl⟩
 by_cases c1:z<0
 ·rw[leafR_yes (.inl (by rw[hz];exact c1))] at b1
  simp only[↓hcsBsX,↓hdBsX,entRgt,entHlp,entEnd,entLsP,entCiF,entCpF,entBst,entPow,entCop,entCiD,entCpD,undef,hi',hBk,hPm,hy,hyn,hz,c1,nl1,w1,oy,go_sem]
  try simp only[hi',hBk,hPm,hy,hyn,hz,c1,nl1,w1,oy,td,reduceCtorEq]
  refine ⟨k+1,by omega,⟨hk',hlf,hll⟩,rfl,?_⟩
  rw[b1]
  simp only[oy,go_sem]
  first|done|exact ⟨⟨rfl,rfl⟩,rfl⟩|rfl
 by_cases c2:z=0
 ·subst c2
  by_cases c3:endsR (N,A,C,Q,P,S1,S2,S3) P2<yn
  ·rw[leafR_yes (.inr ⟨hz,c3⟩)] at b1
   simp only[↓hcsBsX,↓hdBsX,entRgt,entHlp,entEnd,entLsP,entCiF,entCpF,entBst,entPow,entCop,entCiD,entCpD,undef,hi',hBk,hPm,hy,hyn,hz,c3,n00,nl1,w1,oy,go_sem]
   try simp only[hi',hBk,hPm,hy,hyn,hz,c3,n00,nl1,w1,oy,td,reduceCtorEq]
   refine ⟨k+1,by omega,⟨hk',hlf,hll⟩,rfl,?_⟩
   rw[b1]
   simp only[oy,go_sem]
   first|done|exact ⟨⟨rfl,rfl⟩,rfl⟩|rfl
  ·rw[leafR_no (by rw[hz];exact c1) (fun w=>c3 w.2)] at b1
   simp only[↓hcsBsX,↓hdBsX,entRgt,entHlp,entEnd,entLsP,entCiF,entCpF,entBst,entPow,entCop,entCiD,entCpD,undef,hi',hBk,hPm,hy,hyn,hz,c3,n00,nl1,w1,oy,go_sem]
   try simp only[hi',hBk,hPm,hy,hyn,hz,c3,n00,nl1,w1,oy,td,reduceCtorEq]
   refine ⟨k+1,by omega,⟨hk',hlf,hll⟩,rfl,?_⟩
   rw[b1]
   simp only[oy,go_sem]
   first|done|exact ⟨⟨rfl,rfl⟩,rfl⟩|rfl
 ·rw[leafR_no (by rw[hz];exact c1) (fun w=>c2 (hz.symm.trans w.1))] at b1
  simp only[↓hcsBsX,↓hdBsX,entRgt,entHlp,entEnd,entLsP,entCiF,entCpF,entBst,entPow,entCop,entCiD,entCpD,undef,hi',hBk,hPm,hy,hyn,hz,c1,c2,nl1,w1,oy,go_sem]
  try simp only[hi',hBk,hPm,hy,hyn,hz,c1,c2,nl1,w1,oy,td,reduceCtorEq]
  refine ⟨k+1,by omega,⟨hk',hlf,hll⟩,rfl,?_⟩
  rw[b1]
  simp only[oy,go_sem]
  first|done|exact ⟨⟨rfl,rfl⟩,rfl⟩|rfl
end T
end Go.Proofs.YtpocfbfmjippnaaGreat
end
