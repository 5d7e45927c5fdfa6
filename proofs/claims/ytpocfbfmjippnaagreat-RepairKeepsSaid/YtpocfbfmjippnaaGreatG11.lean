/- Parts of the proof of the law; no condition. -/
import Derived.Test.YtpocfbfmjippnaaGreatG7
set_option linter.all false
section
namespace Go.Proofs.YtpocfbfmjippnaaGreat
namespace T
def carAt (w:DWorld) (c:Int):DCar:=w.2.2.1.getD c.toNat (0,0,0,0,0,0,0,0,0)
def reqAt (w:DWorld) (r:Int):DReq:=w.2.2.2.1.getD r.toNat dReq
def asksF (w:DWorld) (c:Int) (ss:List DStop):Bool:=rightP w&&(decide (0≤c∧c<w.2.2.1.length)&&rightS ss w.2.2.2.1)
def winF (w:DWorld) (c:Int) (ss:List DStop):Nat→DWin
 |0=>((carAt w c).2.2.1,(carAt w c).2.2.2.1)
 |k+1=>if (ss.getD k dStop).2=true then ((reqAt w (ss.getD k dStop).1).2.2.2.1,minI (reqAt w (ss.getD k dStop).1).2.2.2.2.1 (carAt w c).2.2.2.1)
  else if ((ss.getD k dStop).1,true)∈ss.take k then ((reqAt w (ss.getD k dStop).1).2.2.2.1,minI (reqAt w (ss.getD k dStop).1).2.2.2.2.2.1 (carAt w c).2.2.2.1)
  else ((carAt w c).2.2.1,minI (reqAt w (ss.getD k dStop).1).2.2.2.2.2.1 (carAt w c).2.2.2.1)
def nodeF (w:DWorld) (c:Int) (ss:List DStop):Nat→Int
 |0=>(carAt w c).2.1
 |k+1=>if (ss.getD k dStop).2=true then (reqAt w (ss.getD k dStop).1).2.1 else (reqAt w (ss.getD k dStop).1).2.2.1
def rideP (w:DWorld) (ss:List DStop) (k:Nat):DRide:=(atF ((ss.getD k dStop).1,true) ss+1,(k:Int)+1,(reqAt w (ss.getD k dStop).1).2.2.2.2.2.2.1)
def rideR (w:DWorld) (ss:List DStop) (k:Nat):DRide:=((k:Int)+1,atF ((ss.getD k dStop).1,false) ss+1,(reqAt w (ss.getD k dStop).1).2.2.2.2.2.2.1)
def dropB (ss:List DStop) (k:Nat):Bool:=!(ss.getD k dStop).2&&decide (((ss.getD k dStop).1,true)∈ss.take k)
def ridesP (w:DWorld) (ss:List DStop) (j:Nat):List DRide:=((List.range j).filter (dropB ss)).map (rideP w ss)
def ridesR (w:DWorld) (ss:List DStop) (j:Nat):List DRide:=((List.range j).filter fun k=>(ss.getD k dStop).2).map (rideR w ss)
def winsF (w:DWorld) (c:Int) (ss:List DStop):List DWin:=(List.range (ss.length+1)).map (winF w c ss)
def legAt (w:DWorld) (c:Int) (ss:List DStop) (k:Nat):DLeg×Bool:=legF w (nodeF w c ss k) (nodeF w c ss (k+1)) (winF w c ss k)
def legsF (w:DWorld) (c:Int) (ss:List DStop):List DLeg:=(List.range ss.length).map fun k=>(legAt w c ss k).1
def badW (w:DWorld) (c:Int) (ss:List DStop) (k:Nat):Bool:=decide ((winF w c ss k).1>(winF w c ss k).2)
def noChain:DChain:=([],[],[])
def chainF (w:DWorld) (c:Int) (ss:List DStop):DChain×Int:=
 if asksF w c ss=false then (noChain,1) else if (List.range (ss.length+1)).any (badW w c ss)=true then (noChain,20)
 else if (List.range ss.length).any (fun k=>!(legAt w c ss k).2)=true then (noChain,4) else ((winsF w c ss,legsF w c ss,ridesR w ss ss.length),0)
theorem asks_iff {w:DWorld} {c:Int} {ss:List DStop}:asksF w c ss=true↔rightP w=true∧(0≤c∧c<w.2.2.1.length)∧RightS ss w.2.2.2.1:=by
 unfold asksF rightS;simp only[Bool.and_eq_true,decide_eq_true_eq]
theorem car_in {w:DWorld} {c:Int} {ss:List DStop} (h:asksF w c ss=true):carB (w.1-1) (carAt w c)=true:=by
 obtain ⟨h1,h2,_⟩:=asks_iff.1 h;exact (rightP_iff.1 h1).2.2.1 _ (getD_mem2 (by omega))
theorem req_in {w:DWorld} {c:Int} {ss:List DStop} (h:asksF w c ss=true) {k:Nat} (hk:k<ss.length):(0≤(ss.getD k dStop).1∧(ss.getD k dStop).1<w.2.2.2.1.length)∧reqB (w.1-1) (reqAt w (ss.getD k dStop).1)=true:=by
 obtain ⟨h1,_,h3⟩:=asks_iff.1 h;have h4:=(h3.2 k hk).1;exact ⟨h4,(rightP_iff.1 h1).2.2.2.1 _ (getD_mem2 (by omega))⟩
theorem carT {m:Int} {c:DCar} (h:carB m c=true):(0≤c.2.1∧c.2.1≤m)∧(0≤c.2.2.1∧c.2.2.1≤1048576)∧(0≤c.2.2.2.1∧c.2.2.2.1≤1048576)∧c.2.2.1≤c.2.2.2.1:=by
 unfold carB allIn at h;simp at h;omega
theorem reqT {m:Int} {q:DReq} (h:reqB m q=true):(0≤q.2.2.2.1∧q.2.2.2.1≤1048576)∧(0≤q.2.2.2.2.1∧q.2.2.2.2.1≤1048576)∧(0≤q.2.2.2.2.2.1∧q.2.2.2.2.2.1≤1048576)∧(0≤q.2.2.2.2.2.2.1∧q.2.2.2.2.2.2.1≤1048576)∧(0≤q.2.1∧q.2.1≤m)∧0≤q.2.2.1∧q.2.2.1≤m:=by
 unfold reqB allIn at h;simp at h;omega
theorem winF_s (w:DWorld) (c:Int) (ss:List DStop) (k:Nat):winF w c ss (k+1)=if (ss.getD k dStop).2=true then ((reqAt w (ss.getD k dStop).1).2.2.2.1,minI (reqAt w (ss.getD k dStop).1).2.2.2.2.1 (carAt w c).2.2.2.1)
  else if ((ss.getD k dStop).1,true)∈ss.take k then ((reqAt w (ss.getD k dStop).1).2.2.2.1,minI (reqAt w (ss.getD k dStop).1).2.2.2.2.2.1 (carAt w c).2.2.2.1)
  else ((carAt w c).2.2.1,minI (reqAt w (ss.getD k dStop).1).2.2.2.2.2.1 (carAt w c).2.2.2.1):=rfl
theorem nodeF_s (w:DWorld) (c:Int) (ss:List DStop) (k:Nat):nodeF w c ss (k+1)=if (ss.getD k dStop).2=true then (reqAt w (ss.getD k dStop).1).2.1 else (reqAt w (ss.getD k dStop).1).2.2.1:=rfl
theorem win_rng {w:DWorld} {c:Int} {ss:List DStop} (h:asksF w c ss=true):∀{k:Nat},k≤ss.length→(0≤(winF w c ss k).1∧(winF w c ss k).1≤1048576)∧0≤(winF w c ss k).2∧(winF w c ss k).2≤1048576
 |0,_=>by
  have:=carT (car_in h);exact ⟨this.2.1,this.2.2.1⟩
 |k+1,hk=>by
  have h1:=carT (car_in h);have h2:=reqT (req_in h (k:=k) (by omega)).2;have h3:=minI_le (reqAt w (ss.getD k dStop).1).2.2.2.2.1 (carAt w c).2.2.2.1;have h4:=minI_le (reqAt w (ss.getD k dStop).1).2.2.2.2.2.1 (carAt w c).2.2.2.1;rw[winF_s];split
  ·dsimp only;omega
  split
  ·dsimp only;omega
  ·dsimp only;omega
theorem ridesR_sorted (w:DWorld) (ss:List DStop) (j:Nat):(ridesR w ss j).Pairwise fun a b=>a.1<b.1:=by
 unfold ridesR;rw[List.pairwise_map];exact (List.Pairwise.filter _ List.pairwise_lt_range).imp fun {a b} h=>by
  show (a:Int)+1<(b:Int)+1;omega
theorem ridesP_sorted (w:DWorld) (ss:List DStop) (j:Nat):(ridesP w ss j).Pairwise fun a b=>a.2.1<b.2.1:=by
 unfold ridesP;rw[List.pairwise_map];exact (List.Pairwise.filter _ List.pairwise_lt_range).imp fun {a b} h=>by
  show (a:Int)+1<(b:Int)+1;omega
theorem ride_pair {w:DWorld} {ss:List DStop} (h:RightS ss w.2.2.2.1) {i k:Nat} (hi:i<ss.length) (hk:k<ss.length) {r:Int} (ei:ss.getD i dStop=(r,true)) (ek:ss.getD k dStop=(r,false)):rideP w ss k=rideR w ss i:=by
 have h1:=h.at_eq hi;have h2:=h.at_eq hk;unfold rideP rideR;rw[ei] at h1;rw[ek] at h2;rw[ei,ek];dsimp only;rw[h1,h2]
theorem pick_drop {ss:List DStop} {rs:List DReq} (h:RightS ss rs) {i:Nat} (hi:i<ss.length) (hp:(ss.getD i dStop).2=true):∃k,i<k∧k<ss.length∧ss.getD k dStop=((ss.getD i dStop).1,false):=by
 obtain ⟨k,h1,h2,h3⟩:=mem_drop_ge ((h.2 i hi).2.2.2 hp);exact ⟨k,by omega,h2,h3⟩
theorem drop_pick {ss:List DStop} {k:Nat} (h:dropB ss k=true):(ss.getD k dStop).2=false∧∃i,i<k∧i<ss.length∧ss.getD i dStop=((ss.getD k dStop).1,true):=by
 unfold dropB at h;rw[Bool.and_eq_true,Bool.not_eq_true',decide_eq_true_eq] at h;obtain ⟨i,h1,h2,h3⟩:=mem_take_lt h.2;exact ⟨h.1,i,h1,h2,h3⟩
theorem rides_perm {w:DWorld} {ss:List DStop} (h:RightS ss w.2.2.2.1):(ridesP w ss ss.length).Perm (ridesR w ss ss.length):=by
 refine (List.perm_ext_iff_of_nodup ?_ ?_).2 fun x=>?_
 ·exact (ridesP_sorted w ss _).imp fun {a b} h e=>by rw[e] at h;exact Int.lt_irrefl _ h
 ·exact (ridesR_sorted w ss _).imp fun {a b} h e=>by rw[e] at h;exact Int.lt_irrefl _ h
 unfold ridesP ridesR;simp only[List.mem_map,List.mem_filter,List.mem_range];constructor
 ·rintro ⟨k,⟨hk,hd⟩,rfl⟩;obtain ⟨h1,i,h2,h3,h4⟩:=drop_pick hd;refine ⟨i,⟨h3,by rw[h4]⟩,?_⟩;exact (ride_pair h h3 hk h4 (by rw[←h1])).symm
 ·rintro ⟨i,⟨hi,hp⟩,rfl⟩;obtain ⟨k,h1,h2,h3⟩:=pick_drop h hi hp;have ei:ss.getD i dStop=((ss.getD i dStop).1,true):=by rw[←hp]
  refine ⟨k,⟨h2,?_⟩,ride_pair h hi h2 ei h3⟩;unfold dropB;rw[h3,Bool.and_eq_true,decide_eq_true_eq];refine ⟨rfl,?_⟩;have:=mem_take_of hi h1;rwa [ei] at this
theorem sorted_eq {a b:List DRide} (hp:a.Perm b) (ha:a.Pairwise fun x y=>x.1≤y.1) (hb:b.Pairwise fun x y=>x.1<y.1):a=b:=by
 refine List.Perm.eq_of_pairwise (le:=fun x y=>x.1≤y.1) (fun x y hx hy h1 h2=>?_) ha (hb.imp fun {x y} h=>Int.le_of_lt h) hp;have hx':=hp.mem_iff.1 hx;have e:x.1=y.1:=Int.le_antisymm h1 h2;obtain ⟨i,hi,rfl⟩:=List.getElem_of_mem hx';obtain ⟨j,hj,rfl⟩:=List.getElem_of_mem hy;have hb:=List.pairwise_iff_getElem.1 hb;rcases Nat.lt_trichotomy i j with c|c|c
 ·have:=hb i j hi hj c;omega
 ·subst c;rfl
 ·have:=hb j i hj hi c;omega
end T
end Go.Proofs.YtpocfbfmjippnaaGreat
end
