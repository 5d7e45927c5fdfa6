/- Parts of the proof of the law; no condition. -/
import Derived.Test.YtpocfbfmjippnaaGreatH31
set_option linter.all false
section
namespace Go.Proofs.YtpocfbfmjippnaaGreat
namespace T
def arcR (f t:Int):DArc:=(f,t,List.replicate 24 10,List.replicate 24 10)
theorem tkR (a b:Int) (h:Bool) (u:Int):(toArc (arcR a b)).tk h u=10:=by
 have hl:=hour_lt u;unfold Arc.tk Arc.row;cases h
 ·show (List.replicate 24 (10:Int)).getD _ 0=10;rw[List.getD_eq_getElem?_getD,List.getElem?_replicate,if_pos hl];rfl
 ·show (List.replicate 24 (10:Int)).getD _ 0=10;rw[List.getD_eq_getElem?_getD,List.getElem?_replicate,if_pos hl];rfl
theorem passR {a b:Int} {h:Bool} {x:Int} (h1:x≤1048576):(toArc (arcR a b)).pass h x=x+10:=by
 refine Arc.pass_eq h1 ⟨⟨x,Int.le_refl _,h1,by rw[tkR]⟩,fun v v1 v2=>?_⟩;rw[tkR];omega
theorem pqR {a b:Int} (ha:a=0∨a=1) (hb:b=0∨b=1) {x:Int} (h0:0≤x) (h1:x≤1000):(toArc (arcR a b)).passF true x=x+10:=by
 rw[Arc.passF_yes _ ?_ ⟨by omega,by omega⟩,passR (by omega)];rcases ha with rfl|rfl<;>rcases hb with rfl|rfl<;>decide
def ctyW:DWorld:=(2,[arcR 0 1,arcR 1 0],[(0,0,0,100,1,0,0,0,0),(0,0,0,100,1,0,0,0,0),(0,0,0,100,1,0,0,0,0)],[(0,0,1,20,30,60,40,1,0,0),(0,0,1,20,30,60,40,1,0,0),(0,0,1,20,30,60,40,1,0,0)],[],100,30,300)
theorem ctyS (f0 f1:Int→Int) (E:Nat→Move) (e0:E 0=(0,1,f0)) (e1:E 1=(1,0,f1)) (a1:f0 20=30) (a2:f0 30=40) (b1:f1 20=30) (b2:f1 30=40):
  searchF false E 2 2 0 20=[(20,-1),(30,0)]∧searchF false E 2 2 1 20=[(30,1),(20,-1)]:=by
 refine ⟨?_,?_⟩<;>simp[searchF,runF,relaxTo,pickTo,reachF,betterB,timeB,isTime,a1,a2,b1,b2,e0,e1,List.replicate,List.set]
theorem ctyE:earlyF 2 ctyW.2.1 0 20 true=([(20,-1),(30,0)],0,())∧earlyF 2 ctyW.2.1 1 20 true=([(30,1),(20,-1)],0,()):=by
 obtain ⟨h0,h1⟩:=ctyS _ _ (moveE ctyW.2.1 true) rfl rfl (pqR (x:=20) (a:=0) (b:=1) (.inl rfl) (.inr rfl) (by decide) (by decide)) (pqR (x:=30) (a:=0) (b:=1) (.inl rfl) (.inr rfl) (by decide) (by decide))
  (pqR (x:=20) (a:=1) (b:=0) (.inr rfl) (.inl rfl) (by decide) (by decide)) (pqR (x:=30) (a:=1) (b:=0) (.inr rfl) (.inl rfl) (by decide) (by decide))
 have hr:rightR 2 ctyW.2.1=true:=by decide
 have hl:ctyW.2.1.length=2:=rfl;unfold earlyF;rw[hr,hl];rw[if_neg (by decide),if_neg (by decide)];exact ⟨by rw[show (2:Int).toNat=2 from rfl,show (0:Int).toNat=0 from rfl,h0],by rw[show (2:Int).toNat=2 from rfl,show (1:Int).toNat=1 from rfl,h1]⟩
def tbR (a b:Int) (v:DWin):DLeg×Bool:=
 if a=b then ((0,0),true) else if (v=(20,30)∨v=(20,60))∧(a=0∧b=1∨a=1∧b=0) then ((10,10),true) else legF ctyW a b v
theorem legCR {a b l:Int} {W:List Int} {L:List DLab} {x:DLeg} (hab:a≠b) (he:(earlyF 2 ctyW.2.1 a 20 true).1=L) (hw:wayF L ctyW.2.1 b=W) (hn:W≠[]) (hf:W.foldl (legStep ctyW.2.1 20 l) (0,0)=x):legF ctyW a b (20,l)=(x,true):=by
 have e:legWay ctyW a b (20,l)=W:=by
  unfold legWay;show wayF (earlyF 2 ctyW.2.1 a 20 true).1 ctyW.2.1 b=W;rw[he,hw]
 unfold legF;rw[if_neg hab,e,decide_eq_true hn];exact congrArg (fun x=>(x,true)) hf
theorem tbR_eq:legF ctyW=tbR:=by
 funext a b v;unfold tbR;by_cases h0:a=b
 ·rw[if_pos h0];unfold legF;rw[if_pos h0]
 rw[if_neg h0];by_cases h:(v=(20,30)∨v=(20,60))∧(a=0∧b=1∨a=1∧b=0)
 ·rw[if_pos h];obtain ⟨hv,ha⟩:=h;obtain ⟨E0,E1⟩:=ctyE;rcases ha with ⟨rfl,rfl⟩|⟨rfl,rfl⟩
  ·rcases hv with rfl|rfl<;>exact legCR (W:=[0]) (by decide) (by rw[E0]) (by decide) (by decide) (by decide+kernel)
  ·rcases hv with rfl|rfl<;>exact legCR (W:=[1]) (by decide) (by rw[E1]) (by decide) (by decide) (by decide+kernel)
 ·rw[if_neg h]
def chainV (tb:Int→Int→DWin→DLeg×Bool) (w:DWorld) (c:Int) (ss:List DStop):DChain×Int:=
 if asksF w c ss=false then (noChain,1) else if (List.range (ss.length+1)).any (badW w c ss)=true then (noChain,20)
 else if (List.range ss.length).any (fun k=>!(tb (nodeF w c ss k) (nodeF w c ss (k+1)) (winF w c ss k)).2)=true then (noChain,4) else ((winsF w c ss,(List.range ss.length).map fun k=>(tb (nodeF w c ss k) (nodeF w c ss (k+1)) (winF w c ss k)).1,ridesR w ss ss.length),0)
def begV (tb:Int→Int→DWin→DLeg×Bool) (w:DWorld) (c:Int) (ss:List DStop):DChain×Int:=
 if asksF w c ss=false then (noChain,1) else if (fitsF (carLoad (carAt w c)) ss w.2.2.2.1).2≠0 then (noChain,27) else if togF w.2.2.2.2.1 ss w.2.2.2.1=false then (noChain,30) else chainV tb w c ss
def makeV (w:DWorld) (c:Int) (ss:List DStop) (b:DChain×Int):DPlan×Int:=
 if b.2≠0 then (noPlan,b.2) else if (guardF b.1).2≠0 then (noPlan,20)
 else if restsF w b.1 (guardF b.1).1=false then (noPlan,29) else ((c,ss,b.1.2.1,(guardF b.1).1),0)
def mkV (c:Int) (ss:List DStop):DPlan×Int:=makeV ctyW c ss (begV tbR ctyW c ss)
theorem mkV_eq (c:Int) (ss:List DStop):makeF ctyW c ss=mkV c ss:=by
 show makeV ctyW c ss (begV (legF ctyW) ctyW c ss)=_;rw[tbR_eq];rfl
def checkV (w:DWorld) (p:DPlan) (b:DChain×Int):Int:=
 if b.2≠0 then b.2 else if okC w p b.1=false then 23 else if keeps20 b.1 p.2.2.2=false then 20 else if restsF w b.1 p.2.2.2=false then 29 else 0
def ckV (p:DPlan):Int:=checkV ctyW p (begV tbR ctyW p.1 p.2.1)
theorem ckV_eq (p:DPlan):checkP ctyW p=ckV p:=by
 show checkV ctyW p (begV (legF ctyW) ctyW p.1 p.2.1)=_;rw[tbR_eq];rfl
abbrev rqA:List DStop:=[(0,true),(0,false)]
abbrev rqB:List DStop:=[(2,true),(2,false)]
abbrev plA:DPlan:=(0,rqA,[(0,0),(10,10)],[0,20,20])
abbrev plB:DPlan:=(1,rqB,[(0,0),(10,10)],[0,20,20])
abbrev plC:DPlan:=(2,[],[],[0])
abbrev plX:DPlan:=(2,rqA,[(0,0),(10,10)],[0,20,20])
theorem rmA:makeF ctyW 0 rqA=(plA,0):=by rw[mkV_eq];decide+kernel
theorem rmB:makeF ctyW 1 rqB=(plB,0):=by rw[mkV_eq];decide+kernel
theorem rmC:makeF ctyW 2 []=(plC,0):=by rw[mkV_eq];decide+kernel
theorem rmX:makeF ctyW 2 rqA=(plX,0):=by rw[mkV_eq];decide+kernel
theorem rkA:checkP ctyW plA=0:=by rw[ckV_eq];decide+kernel
theorem rkB:checkP ctyW plB=0:=by rw[ckV_eq];decide+kernel
theorem rkC:checkP ctyW plC=0:=by rw[ckV_eq];decide+kernel
theorem rrW:rightP ctyW=true:=by decide+kernel
theorem reB:errI ctyW plB 0=0:=by
 unfold errI;rw[rrW,rkB];decide
theorem reC:errI ctyW plC 0=0:=by
 unfold errI;rw[rrW,rkC];decide
theorem bst_no {w:DWorld} {p:DPlan} {q:Int} {n:Nat} (he:errI w p q=0) (hl:p.2.1.length=n) (h:∀a b:Nat,a≤b→b≤n→(makeF w p.1 (stopsI p.2.1 q a b)).2≠0):(bstP w p q).2=4:=by
 have hn:atN (linesI w p q) (linesI w p q).length<0:=by
  refine Int.not_le.1 fun z=>?_;obtain ⟨a,b,hab,hb,_,h0⟩:=best_is z;exact h a b hab (by omega) h0
 unfold bstP bestF;rw[he,if_neg (by decide),if_pos hn]
theorem bst_one {w:DWorld} {p X:DPlan} {q:Int} {ss:List DStop} (he:errI w p q=0) (hl:p.2.1=[]) (hs:stopsI p.2.1 q ((0:Nat):Int) ((0:Nat):Int)=ss) (hm:makeF w p.1 ss=(X,0)):bstP w p q=(X,0):=by
 have h1:0≤atN (linesI w p q) (linesI w p q).length:=by
  rcases atN_best (linesI w p q) (linesI w p q).length with ⟨_,h⟩|⟨k,e,_⟩
  ·obtain ⟨_,e2,e3⟩:=lines_at w p q (j:=0) (i:=0) (Nat.zero_le _) (by omega);have:=h _ e3;rw[e2] at this;refine absurd ?_ this;show (makeF w p.1 (stopsI p.2.1 q ((0:Nat):Int) ((0+0:Nat):Int))).2=0;rw[show stopsI p.2.1 q ((0:Nat):Int) ((0+0:Nat):Int)=ss from hs,hm]
  ·omega
 obtain ⟨a,b,hab,hb,e1,e2⟩:=best_is h1;have hb:b≤0:=by rw[hl] at hb;exact hb
 obtain rfl:b=0:=by omega
 obtain rfl:a=0:=by omega
 have hp:planI w p q ((linesI w p q).getD (atN (linesI w p q) (linesI w p q).length).toNat dPlace)=X:=by
  rw[e1];show (makeF w p.1 (stopsI p.2.1 q ((0:Nat):Int) ((0:Nat):Int))).1=X;rw[hs,hm]
 unfold bstP bestF;rw[he,if_neg (by decide),if_neg (by omega)];dsimp only;rw[hp]
theorem rbB:(bstP ctyW plB 0).2=4:=by
 have key:∀a:Fin 3,∀b:Fin 3,a≤b→(mkV 1 (stopsI rqB 0 (a:Nat) (b:Nat))).2≠0:=by decide+kernel
 refine bst_no (n:=2) reB rfl fun a b hab hb=>?_;have:=key ⟨a,by omega⟩ ⟨b,by omega⟩ hab;rw[←mkV_eq] at this;exact this
theorem rbC:bstP ctyW plC 0=(plX,0):=bst_one reC rfl (by decide) rmX
theorem scan2 {w:DWorld} {B C X:DPlan} (h1:(bstP w B 0).2≠0) (h2:bstP w C 0=(X,0)):scanR w [B,C] [0]=(some ([1],[B,X],endsR w [B,X]),[([0],0)]):=by
 have p0:playR w [B,C] [0] [0] 0=([],0):=by
  unfold playR;rw[if_neg (by decide)];exact if_pos h1
 have p1:playR w [B,C] [0] [1] 0=([B,X],-1):=by
  unfold playR;rw[if_neg (by decide),show ([B,C]:List DPlan).getD (1:Int).toNat dPln=C from rfl,h2,if_neg (show¬(0:Int)≠0 by decide)];rfl
 have p2:playR w [B,C] [0] [-1] 0=([B,C],-1):=by
  unfold playR;rw[if_pos (by decide)];rfl
 show stepR w [B,C] [0] (stepR w [B,C] [0] (stepR w [B,C] [0] (none,[]) [0]) [1]) [-1]=_;have s0:stepR w [B,C] [0] (none,[]) [0]=(none,[([0],0)]):=by
  unfold stepR;rw[p0,if_pos (by decide)];rfl
 have s1:stepR w [B,C] [0] (none,[([0],0)]) [1]=(some ([1],[B,X],endsR w [B,X]),[([0],0)]):=by
  unfold stepR;rw[p1,if_neg (show¬(0:Int)≤ -1 by decide)];rfl
 rw[s0,s1];unfold stepR;rw[p2,if_neg (show¬(0:Int)≤ -1 by decide)];dsimp only[leafR];rw[if_neg (by
  rintro (z|⟨z,_⟩)
  ·exact absurd z (by decide)
  ·exact absurd z (by decide))]
theorem scan1 {w:DWorld} {B:DPlan} (h1:(bstP w B 0).2≠0):scanR w [B] [0]=(some ([-1],[B],endsR w [B]),[([0],0)]):=by
 have p0:playR w [B] [0] [0] 0=([],0):=by
  unfold playR;rw[if_neg (by decide)];exact if_pos h1
 have p2:playR w [B] [0] [-1] 0=([B],-1):=by
  unfold playR;rw[if_pos (by decide)];rfl
 show stepR w [B] [0] (stepR w [B] [0] (none,[]) [0]) [-1]=_;have s0:stepR w [B] [0] (none,[]) [0]=(none,[([0],0)]):=by
  unfold stepR;rw[p0,if_pos (by decide)];rfl
 rw[s0];unfold stepR;rw[p2,if_neg (show¬(0:Int)≤ -1 by decide)];rfl
theorem okR3:RightR ctyW [plA,plB,plC] 0 [0]:=by
 refine ⟨rrW,by decide,by decide,fun j hj=>?_,fun j hj=>?_⟩
 ·have hj:j<3:=hj;rcases (by omega:j=0∨j=1∨j=2) with rfl|rfl|rfl
  ·exact ⟨⟨rkA,fun i hi=>absurd hi (Nat.not_lt_zero _)⟩,fun h=>absurd rfl h⟩
  ·exact ⟨⟨rkB,fun i hi=>by obtain rfl:i=0:=(by omega);decide⟩,fun _=>by decide⟩
  ·exact ⟨⟨rkC,fun i hi=>by rcases (by omega:i=0∨i=1) with rfl|rfl<;>decide⟩,fun _=>by decide⟩
 ·have hj:j<1:=hj;obtain rfl:j=0:=by omega
  decide
theorem okR2:RightR ctyW [plA,plB] 0 [0]:=okR3.fewer 2
theorem rb3:bestR ctyW [plA,plB,plC] 0 [0]=([plB,plX],[],[],0):=by
 unfold bestR;rw[rightR_yes okR3,if_neg (by decide),if_neg (by decide),show helpF [plA,plB,plC] 0=[plB,plC] by decide,scan2 (by rw[rbB];decide) rbC];rfl
theorem rb2:bestR ctyW [plA,plB] 0 [0]=([plB],[0],[([0],0)],0):=by
 unfold bestR;rw[rightR_yes okR2,if_neg (by decide),if_neg (by decide),show helpF [plA,plB] 0=[plB] by decide,scan1 (by rw[rbB];decide)];rfl
end T
end Go.Proofs.YtpocfbfmjippnaaGreat
end
