/- Parts of the proof (put together by a program): definitions, lemmas, and the law; no condition. -/
import Derived.Test.YtjlofnjlhgbmoaaGreatR43
import Derived.Test.YtjlofnjlhgbmoaaGreatR45
import Derived.Test.YtjlofnjlhgbmoaaGreatR6
set_option linter.unusedVariables false
set_option linter.unusedSimpArgs false
section
namespace Go.Proofs.YtjlofnjlhgbmoaaGreat
open Go.RowKit Go.IntWalk
namespace T
def arcF20 (f t lo hi:Int):DArc:=(f,t,List.replicate 24 lo,List.replicate 24 hi)
theorem tk20 (a b lo hi:Int) (h:Bool) (u:Int):(toArc (arcF20 a b lo hi)).tk h u=if h then hi else lo:=by
 have hl:=hour_lt u
 unfold Arc.tk Arc.row
 cases h
 ·show (List.replicate 24 lo).getD _ 0=lo
  rw [List.getD_eq_getElem?_getD,List.getElem?_replicate,if_pos hl];rfl
 ·show (List.replicate 24 hi).getD _ 0=hi
  rw [List.getD_eq_getElem?_getD,List.getElem?_replicate,if_pos hl];rfl
theorem pass20 {a b lo hi:Int} {h:Bool} {x p:Int} (h1:x≤1048576) (e:p=x+if h then hi else lo):(toArc (arcF20 a b lo hi)).pass h x=p:=by
 refine Arc.pass_eq h1 ⟨⟨x,Int.le_refl _,h1,by rw [tk20];exact e⟩,fun v v1 v2=>?_⟩
 rw [tk20,e]
 omega
def town21 (s:Int):DWorld:=(2,[arcF20 0 1 10 20],[(0,0,0,100,s,0,0,0,0)],[(0,0,1,0,30,60,20,1,0,0)],[],100,10,200)
abbrev st21:List DStop:=[(0,true),(0,false)]
abbrev p21:DPlan:=(0,[],[],[0])
abbrev q21:DPlan:=(0,[(0,true),(0,false)],[(0,0),(10,20)],[0,0,0])
theorem ex21 (f0:Int→Int) (h0:f0 0=20) (E:Nat→Move) (e0:E 0=(0,1,f0)):searchF false E 1 2 0 0=[(0,-1),(20,0)]:=by
 simp [searchF,runF,relaxTo,pickTo,reachF,betterB,timeB,isTime,h0,e0,List.replicate,List.set]
theorem pq21:(toArc (arcF20 0 1 10 20)).passF true 0=20:=by rw [Arc.passF_yes _ (by decide) ⟨by decide,by decide⟩,pass20 (p:=20) (by decide) (by decide)]
theorem ey21:earlyF 2 [arcF20 0 1 10 20] 0 0 true=([(0,-1),(20,0)],0,()):=by
 unfold earlyF
 rw [show rightR 2 [arcF20 0 1 10 20]=true by decide,if_neg (by decide),show searchF false (moveE [arcF20 0 1 10 20] true) [arcF20 0 1 10 20].length (2:Int).toNat (0:Int).toNat 0=_ from ex21 _ pq21 (moveE [arcF20 0 1 10 20] true) rfl]
theorem wy21:wayF [(0,-1),(20,0)] [arcF20 0 1 10 20] 1=[0]:=by decide
theorem lw21:legF (town21 1) 0 1 (0,30)=((10,20),true):=by
 have e:legWay (town21 1) 0 1 (0,30)=[0]:=by
  unfold legWay
  show wayF (earlyF 2 [arcF20 0 1 10 20] 0 0 true).1 [arcF20 0 1 10 20] 1=[0]
  rw [ey21];exact wy21
 unfold legF
 rw [if_neg (by decide),e]
 exact congrArg (fun x=>(x,true)) (by decide +kernel:([0]:List Int).foldl (legStep [arcF20 0 1 10 20] 0 30) (0,0)=(10,20))
theorem ch21:chainF (town21 1) 0 st21=(([(0,100),(0,30),(0,60)],[(0,0),(10,20)],[(1,2,20)]),0):=by
 have l0:legAt (town21 1) 0 st21 0=((0,0),true):=rfl
 have l1:legAt (town21 1) 0 st21 1=((10,20),true):=lw21
 have a1:¬ asksF (town21 1) 0 st21=false:=by decide +kernel
 have a2:¬ (List.range (st21.length+1)).any (badW (town21 1) 0 st21)=true:=by decide +kernel
 have a3:¬ (List.range st21.length).any (fun k=>!(legAt (town21 1) 0 st21 k).2)=true:=by
  show ¬ ([0,1]:List Nat).any (fun k=>!(legAt (town21 1) 0 st21 k).2)=true
  rw [List.any_cons,List.any_cons,List.any_nil,l0,l1];decide
 have a4:legsF (town21 1) 0 st21=[(0,0),(10,20)]:=by
  show [(legAt (town21 1) 0 st21 0).1,(legAt (town21 1) 0 st21 1).1]=_
  rw [l0,l1]
 have a5:winsF (town21 1) 0 st21=[(0,100),(0,30),(0,60)]:=by decide +kernel
 have a6:ridesR (town21 1) st21 st21.length=[(1,2,20)]:=by decide +kernel
 unfold chainF
 rw [if_neg a1,if_neg a2,if_neg a3,a4,a5,a6]
theorem bg21:begF (town21 1) 0 st21=(([(0,100),(0,30),(0,60)],[(0,0),(10,20)],[(1,2,20)]),0):=by
 unfold begF
 rw [if_neg (by decide +kernel),if_neg (by decide +kernel),if_neg (by decide +kernel),ch21]
theorem mk21:makeF (town21 1) 0 st21=(q21,0):=by
 rw [makeF_eq,bg21];decide +kernel
theorem en21:endP (town21 1) q21=(20,0):=by
 have h:(makeF (town21 1) 0 st21).2=0:=by rw [mk21]
 have hc:=(made_ok h).2.1
 rw [mk21] at hc
 rw [endP_eq,if_neg (Decidable.not_not.2 hc)]
 show (lastI (worstF (chainF (town21 1) 0 st21).1 [0,0,0]).1,(0:Int))=_
 rw [ch21];decide +kernel
theorem m21:makeF (town21 1) 0 []=(p21,0):=by decide +kernel
theorem si21:stopsI [] 0 ((0:Nat):Int) ((0:Nat):Int)=st21:=by decide
theorem li21:linesI (town21 1) p21 0=[(0,0,0,20)]:=by
 show [lineI (town21 1) p21 0 0 (0+0)]=_
 unfold lineI
 rw [show stopsI p21.2.1 0 ((0:Nat):Int) ((0+0:Nat):Int)=st21 from si21,show makeF (town21 1) p21.1 st21=(q21,0) from mk21,if_pos rfl,en21]
 rfl
theorem er21:errI (town21 1) p21 0=0:=by decide +kernel
theorem at21 (e t:Int) (h:e=0):atN [(0,0,e,t)] 1=0:=by subst h;rfl
abbrev l21:List DPlace:=[(0,0,0,20)]
theorem hs21:stopsI p21.2.1 0 (0:Int) (0:Int)=st21:=by decide
theorem ha21:atN l21 l21.length=0:=at21 0 20 rfl
theorem plan_gen {w:DWorld} {p:DPlan} {r c:Int} {x:DPlace} {ss:List DStop} {q:DPlan} (h1:p.1=c) (h2:stopsI p.2.1 r x.1 x.2.1=ss) (h3:makeF w c ss=(q,0)):planI w p r x=q:=by
 unfold planI
 rw [h1,h2,h3]
theorem hp21:planI (town21 1) p21 0 (0,0,0,20)=q21:=plan_gen (c:=0) rfl hs21 mk21
theorem be_gen {w:DWorld} {p:DPlan} {r:Int} {L:List DPlace} {q:DPlan} {x:DPlace} (h0:errI w p r=0) (hL:linesI w p r=L) (ha:atN L L.length=0) (hx:L.getD 0 dPlace=x) (hq:planI w p r x=q):bestF w p r=(q,x.1,x.2.1,L,0):=by
 unfold bestF
 rw [if_neg (by rw [h0];decide),hL,ha,if_neg (by decide),show ((0:Int).toNat)=0 from rfl,hx,hq]
theorem bn_gen {w:DWorld} {p:DPlan} {r:Int} {L:List DPlace} (h0:errI w p r=0) (hL:linesI w p r=L) (ha:atN L L.length = -1):bestF w p r=(noPlan,0,0,L,4):=by
 unfold bestF
 rw [if_neg (by rw [h0];decide),hL,ha,if_pos (by decide)]
theorem be21:bestF (town21 1) p21 0=(q21,0,0,[(0,0,0,20)],0):=be_gen er21 li21 ha21 rfl hp21
theorem er210:errI (town21 0) p21 0=0:=by decide +kernel
theorem mz21:(makeF (town21 0) 0 st21).2=27:=by decide +kernel
theorem lz21:linesI (town21 0) p21 0=[(0,0,27,0)]:=by
 show [lineI (town21 0) p21 0 0 (0+0)]=_
 have h:(makeF (town21 0) p21.1 (stopsI p21.2.1 0 ((0:Nat):Int) ((0+0:Nat):Int))).2=27:=by
  rw [show stopsI p21.2.1 0 ((0:Nat):Int) ((0+0:Nat):Int)=st21 from si21];exact mz21
 rw [line_no (by rw [h];decide),h]
 rfl
theorem bz21:bestF (town21 0) p21 0=(noPlan,0,0,[(0,0,27,0)],4):=bn_gen er210 lz21 rfl
theorem ck21:checkI (town21 1) p21 0 q21 [(0,0,0,20)]=0:=by
 unfold checkI
 rw [be21,if_neg (by decide),if_pos ⟨rfl,rfl⟩]
theorem cz21:checkI (town21 0) p21 0 noPlan [(0,0,27,0)]=0:=by
 unfold checkI
 rw [bz21,if_neg (by decide),if_pos ⟨rfl,rfl⟩]
end T
end Go.Proofs.YtjlofnjlhgbmoaaGreat
end
