/- Parts of the proof of the law; no condition. -/
import Derived.Test.YtcnfmabhghhdnaaGreatA36
set_option linter.all false
section
namespace Go.Proofs.YtcnfmabhghhdnaaGreat
namespace T
def arcE (f t:Int):DArc:=(f,t,List.replicate 24 10,List.replicate 24 10)
theorem tkE (a b:Int) (h:Bool) (u:Int):(toArc (arcE a b)).tk h u=10:=by
 have hl:=hour_lt u;unfold Arc.tk Arc.row;cases h
 ·show (List.replicate 24 (10:Int)).getD _ 0=10;rw[List.getD_eq_getElem?_getD,List.getElem?_replicate,if_pos hl];rfl
 ·show (List.replicate 24 (10:Int)).getD _ 0=10;rw[List.getD_eq_getElem?_getD,List.getElem?_replicate,if_pos hl];rfl
theorem passE {a b:Int} {h:Bool} {x:Int} (h1:x≤1048576):(toArc (arcE a b)).pass h x=x+10:=by
 refine Arc.pass_eq h1 ⟨⟨x,Int.le_refl _,h1,by rw[tkE]⟩,fun v v1 v2=>?_⟩;rw[tkE];omega
theorem pqE {a b:Int} (ha:0≤a) (hb:0≤b) (ha':a≤2) (hb':b≤2) {x:Int} (h0:0≤x) (h1:x≤1000):(toArc (arcE a b)).passF true x=x+10:=by
 rw[Arc.passF_yes _ ?_ ⟨by omega,by omega⟩,passE (by omega)];have:a=0∨a=1∨a=2:=by omega
 have:b=0∨b=1∨b=2:=by omega
 rcases ‹a=0∨a=1∨a=2› with rfl|rfl|rfl<;>rcases ‹b=0∨b=1∨b=2› with rfl|rfl|rfl<;>decide
def exW:DWorld:=(3,[arcE 0 1,arcE 1 0,arcE 1 2,arcE 2 1],[(0,0,0,500,4,0,0,0,0),(0,2,0,500,4,0,0,0,0)],[(0,2,1,0,400,400,100,1,0,0),(1,1,2,0,400,400,100,1,0,0)],[],400,30,600)
section
theorem exS (f0 f1 f2 f3:Int→Int) (E:Nat→Move) (e0:E 0=(0,1,f0)) (e1:E 1=(1,0,f1)) (e2:E 2=(1,2,f2)) (e3:E 3=(2,1,f3))
  (a0:f0 0=10) (a1:f0 10=20) (a2:f0 20=30) (b0:f1 0=10) (b1:f1 10=20) (b2:f1 20=30) (c0:f2 0=10) (c1:f2 10=20) (c2:f2 20=30) (d0:f3 0=10) (d1:f3 10=20) (d2:f3 20=30):
  searchF false E 4 3 0 0=[(0,-1),(10,0),(20,2)]∧searchF false E 4 3 1 0=[(10,1),(0,-1),(10,2)]∧searchF false E 4 3 2 0=[(20,1),(10,3),(0,-1)]:=by
 refine ⟨?_,?_,?_⟩<;>simp[searchF,runF,relaxTo,pickTo,reachF,betterB,timeB,isTime,a0,a1,a2,b0,b1,b2,c0,c1,c2,d0,d1,d2,e0,e1,e2,e3,List.replicate,List.set]
theorem exE:earlyF 3 exW.2.1 0 0 true=([(0,-1),(10,0),(20,2)],0,())∧earlyF 3 exW.2.1 1 0 true=([(10,1),(0,-1),(10,2)],0,())∧earlyF 3 exW.2.1 2 0 true=([(20,1),(10,3),(0,-1)],0,()):=by
 obtain ⟨h0,h1,h2⟩:=exS _ _ _ _ (moveE exW.2.1 true) rfl rfl rfl rfl (pqE (x:=0) (a:=0) (b:=1) (by decide) (by decide) (by decide) (by decide) (by decide) (by decide)) (pqE (x:=10) (a:=0) (b:=1) (by decide) (by decide) (by decide) (by decide) (by decide) (by decide)) (pqE (x:=20) (a:=0) (b:=1) (by decide) (by decide) (by decide) (by decide) (by decide) (by decide))
  (pqE (x:=0) (a:=1) (b:=0) (by decide) (by decide) (by decide) (by decide) (by decide) (by decide)) (pqE (x:=10) (a:=1) (b:=0) (by decide) (by decide) (by decide) (by decide) (by decide) (by decide)) (pqE (x:=20) (a:=1) (b:=0) (by decide) (by decide) (by decide) (by decide) (by decide) (by decide))
  (pqE (x:=0) (a:=1) (b:=2) (by decide) (by decide) (by decide) (by decide) (by decide) (by decide)) (pqE (x:=10) (a:=1) (b:=2) (by decide) (by decide) (by decide) (by decide) (by decide) (by decide)) (pqE (x:=20) (a:=1) (b:=2) (by decide) (by decide) (by decide) (by decide) (by decide) (by decide))
  (pqE (x:=0) (a:=2) (b:=1) (by decide) (by decide) (by decide) (by decide) (by decide) (by decide)) (pqE (x:=10) (a:=2) (b:=1) (by decide) (by decide) (by decide) (by decide) (by decide) (by decide)) (pqE (x:=20) (a:=2) (b:=1) (by decide) (by decide) (by decide) (by decide) (by decide) (by decide))
 have hr:rightR 3 exW.2.1=true:=by decide
 have hl:exW.2.1.length=4:=rfl;unfold earlyF;rw[hr,hl];rw[if_neg (by decide),if_neg (by decide),if_neg (by decide)];exact ⟨by rw[show (3:Int).toNat=3 from rfl,show (0:Int).toNat=0 from rfl,h0],by rw[show (3:Int).toNat=3 from rfl,show (1:Int).toNat=1 from rfl,h1],by rw[show (3:Int).toNat=3 from rfl,show (2:Int).toNat=2 from rfl,h2]⟩
end
def tbE (a b:Int) (v:DWin):DLeg×Bool:=
 if (v=(0,400)∨v=(0,500))∧(a=0∨a=1∨a=2)∧(b=0∨b=1∨b=2) then (if a=b then ((0,0),true) else if a=1∨b=1 then ((10,10),true) else ((20,20),true)) else legF exW a b v
theorem legE {a b l:Int} {W:List Int} {L:List DLab} {x:DLeg} (hab:a≠b) (he:(earlyF 3 exW.2.1 a 0 true).1=L) (hw:wayF L exW.2.1 b=W) (hn:W≠[]) (hf:W.foldl (legStep exW.2.1 0 l) (0,0)=x):legF exW a b (0,l)=(x,true):=by
 have e:legWay exW a b (0,l)=W:=by
  unfold legWay;show wayF (earlyF 3 exW.2.1 a 0 true).1 exW.2.1 b=W;rw[he,hw]
 unfold legF;rw[if_neg hab,e,decide_eq_true hn];exact congrArg (fun x=>(x,true)) hf
theorem tbE_eq:legF exW=tbE:=by
 funext a b v;unfold tbE;by_cases h:(v=(0,400)∨v=(0,500))∧(a=0∨a=1∨a=2)∧(b=0∨b=1∨b=2)
 ·rw[if_pos h];obtain ⟨hv,ha,hb⟩:=h;obtain ⟨E0,E1,E2⟩:=exE;rcases ha with rfl|rfl|rfl<;>rcases hb with rfl|rfl|rfl
  ·rw[if_pos rfl];unfold legF;rw[if_pos rfl]
  ·rw[if_neg (by decide),if_pos (by decide)];rcases hv with rfl|rfl<;>exact legE (W:=[0]) (by decide) (by rw[E0]) (by decide) (by decide) (by decide+kernel)
  ·rw[if_neg (by decide),if_neg (by decide)];rcases hv with rfl|rfl<;>exact legE (W:=[0,2]) (by decide) (by rw[E0]) (by decide) (by decide) (by decide+kernel)
  ·rw[if_neg (by decide),if_pos (by decide)];rcases hv with rfl|rfl<;>exact legE (W:=[1]) (by decide) (by rw[E1]) (by decide) (by decide) (by decide+kernel)
  ·rw[if_pos rfl];unfold legF;rw[if_pos rfl]
  ·rw[if_neg (by decide),if_pos (by decide)];rcases hv with rfl|rfl<;>exact legE (W:=[2]) (by decide) (by rw[E1]) (by decide) (by decide) (by decide+kernel)
  ·rw[if_neg (by decide),if_neg (by decide)];rcases hv with rfl|rfl<;>exact legE (W:=[3,1]) (by decide) (by rw[E2]) (by decide) (by decide) (by decide+kernel)
  ·rw[if_neg (by decide),if_pos (by decide)];rcases hv with rfl|rfl<;>exact legE (W:=[3]) (by decide) (by rw[E2]) (by decide) (by decide) (by decide+kernel)
  ·rw[if_pos rfl];unfold legF;rw[if_pos rfl]
 ·rw[if_neg h]
def chainT (tb:Int→Int→DWin→DLeg×Bool) (w:DWorld) (c:Int) (ss:List DStop):DChain×Int:=
 if asksF w c ss=false then (noChain,1) else if (List.range (ss.length+1)).any (badW w c ss)=true then (noChain,20)
 else if (List.range ss.length).any (fun k=>!(tb (nodeF w c ss k) (nodeF w c ss (k+1)) (winF w c ss k)).2)=true then (noChain,4) else ((winsF w c ss,(List.range ss.length).map fun k=>(tb (nodeF w c ss k) (nodeF w c ss (k+1)) (winF w c ss k)).1,ridesR w ss ss.length),0)
def begT (tb:Int→Int→DWin→DLeg×Bool) (w:DWorld) (c:Int) (ss:List DStop):DChain×Int:=
 if asksF w c ss=false then (noChain,1) else if (fitsF (carLoad (carAt w c)) ss w.2.2.2.1).2≠0 then (noChain,27) else if togF w.2.2.2.2.1 ss w.2.2.2.1=false then (noChain,30) else chainT tb w c ss
def makeC (w:DWorld) (c:Int) (ss:List DStop) (b:DChain×Int):DPlan×Int:=
 if b.2≠0 then (noPlan,b.2) else if (guardF b.1).2≠0 then (noPlan,20)
 else if restsF w b.1 (guardF b.1).1=false then (noPlan,29) else ((c,ss,b.1.2.1,(guardF b.1).1),0)
def makeT (tb:Int→Int→DWin→DLeg×Bool) (w:DWorld) (c:Int) (ss:List DStop):DPlan×Int:=makeC w c ss (begT tb w c ss)
theorem makeT_eq (w:DWorld) (c:Int) (ss:List DStop):makeF w c ss=makeT (legF w) w c ss:=rfl
def endT (p:DPlan):Int:=lastI (playF p.2.2.2 (highsF p.2.2.1))
theorem endT_eq {w:DWorld} {p:DPlan} (h:checkP w p=0):endF w p=endT p:=by
 unfold endF endT;rw[endP_eq,if_neg (Decidable.not_not.2 h),good_worst h]
def mkE (c:Int) (ss:List DStop):DPlan×Int:=makeT tbE exW c ss
theorem mkE_eq (c:Int) (ss:List DStop):makeF exW c ss=mkE c ss:=by rw[makeT_eq,tbE_eq];rfl
theorem mkE_fun:makeF exW=mkE:=funext fun c=>funext fun ss=>mkE_eq c ss
def checkC (w:DWorld) (p:DPlan) (b:DChain×Int):Int:=
 if b.2≠0 then b.2 else if okC w p b.1=false then 23 else if keeps20 b.1 p.2.2.2=false then 20 else if restsF w b.1 p.2.2.2=false then 29 else 0
def ckE (p:DPlan):Int:=checkC exW p (begT tbE exW p.1 p.2.1)
theorem ckE_eq (p:DPlan):checkP exW p=ckE p:=by
 show checkC exW p (begT (legF exW) exW p.1 p.2.1)=_;rw[tbE_eq];rfl
def enE (p:DPlan):Int:=if ckE p≠0 then 0 else endT p
theorem enE_fun:endF exW=enE:=funext fun p=>by
 unfold enE;rw[←ckE_eq];by_cases h:checkP exW p≠0
 ·rw[if_pos h];unfold endF;rw[endP_eq,if_pos h]
 ·rw[if_neg h,endT_eq (Decidable.not_not.1 h)]
end T
end Go.Proofs.YtcnfmabhghhdnaaGreat
end
