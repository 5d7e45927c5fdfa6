/- Parts of the proof of the law; no condition. -/
import Derived.Test.YtcnfmabhghhdnaaGreatA10
set_option linter.all false
section
namespace Go.Proofs.YtcnfmabhghhdnaaGreat
theorem runLen {late:Bool} {E:Nat→Move} {m:Nat}:∀(f:Nat) (L:List DLab) (S:List Bool),(runF late E m f L S).length=L.length
 |0,_,_=>rfl
 |f+1,L,S=>by
  unfold runF;split
  ·rfl
  ·rw[runLen f,relaxTo_length]
namespace T
theorem earlyLen {n:Int} {A:List DArc} (h:rightR n A=true) (src start:Int) (hi:Bool):(earlyF n A src start hi).1.length≤2000:=by
 unfold earlyF;split
 ·exact Nat.zero_le _
 ·have:=rightR_n h;dsimp only;unfold searchF;rw[runLen,List.length_set,List.length_replicate];omega
def minI (a b:Int):Int:=if b<a then b else a
def lowB (L:List Int) (f:Nat):Nat→Int
 |0=>L.getD (f % 24) 0
 |i+1=>minI (lowB L f i) (L.getD ((f+(i+1)) % 24) 0)
def highB (L:List Int) (f:Nat):Nat→Int
 |0=>L.getD (f % 24) 0
 |i+1=>maxI (highB L f i) (L.getD ((f+(i+1)) % 24) 0)
def hoursN (f t:Int):Nat:=min ((t / 60).toNat-(f / 60).toNat) 23
def bndF (a:DArc) (f t:Int):DLeg:=(lowB a.2.2.1 (f / 60).toNat (hoursN f t),highB a.2.2.2 (f / 60).toNat (hoursN f t))
def legStep (A:List DArc) (e l:Int) (out:DLeg) (k:Int):DLeg:=(out.1+(bndF (A.getD k.toNat (0,0,[],[])) (e+out.1) (l+out.2)).1,out.2+(bndF (A.getD k.toNat (0,0,[],[])) (e+out.1) (l+out.2)).2)
def legWay (w:DWorld) (f t:Int) (x:DWin):List Int:=wayF (earlyF w.1 w.2.1 f x.1 true).1 w.2.1 t
def legF (w:DWorld) (f t:Int) (x:DWin):DLeg×Bool:=
 if f=t then ((0,0),true) else ((legWay w f t x).foldl (legStep w.2.1 x.1 x.2) (0,0),decide (legWay w f t x≠[]))
theorem minI_le (a b:Int):minI a b≤a∧minI a b≤b∧(minI a b=a∨minI a b=b):=by unfold minI;split<;>omega
theorem hours_at {a:Arc} (h:a.right) {k:Nat} (hk:k<24):0≤a.L.getD k 0∧a.L.getD k 0≤a.H.getD k 0∧a.H.getD k 0≤600:=h.2.2.2.2 k hk
theorem low_bd {a:Arc} (h:a.right) (f:Nat):∀i,0≤lowB a.L f i∧lowB a.L f i≤highB a.H f i∧highB a.H f i≤600
 |0=>hours_at h (Nat.mod_lt _ (by omega))
 |i+1=>by
  have h1:=low_bd h f i;have h2:=hours_at h (k:=(f+(i+1)) % 24) (Nat.mod_lt _ (by omega));have h3:=minI_le (lowB a.L f i) (a.L.getD ((f+(i+1)) % 24) 0);show 0≤minI _ _∧minI _ _≤maxI _ _∧maxI _ _≤600;unfold maxI;split<;>omega
theorem lowB_le (L:List Int) (f:Nat):∀i,lowB L f i≤L.getD (f % 24) 0
 |0=>Int.le_refl _
 |i+1=>Int.le_trans (minI_le _ _).1 (lowB_le L f i)
theorem highB_le (L:List Int) (f:Nat):∀i,L.getD (f % 24) 0≤highB L f i
 |0=>Int.le_refl _
 |i+1=>by
  have h1:=highB_le L f i;show _≤maxI _ _;unfold maxI;split<;>omega
theorem lowB_24 (L:List Int) (f i:Nat) (h:i≤24):lowB L f i=lowB L f (min i 23):=by
 by_cases c:i≤23
 ·rw[Nat.min_eq_left c]
 ·obtain rfl:i=24:=by omega
  rw[show min 24 23=23 from rfl];have h1:=lowB_le L f 23;show minI (lowB L f 23) (L.getD ((f+24) % 24) 0)=_;rw[Nat.add_mod_right];unfold minI;rw[if_neg (by omega)]
theorem highB_24 (L:List Int) (f i:Nat) (h:i≤24):highB L f i=highB L f (min i 23):=by
 by_cases c:i≤23
 ·rw[Nat.min_eq_left c]
 ·obtain rfl:i=24:=by omega
  rw[show min 24 23=23 from rfl];have h1:=highB_le L f 23;show maxI (highB L f 23) (L.getD ((f+24) % 24) 0)=_;rw[Nat.add_mod_right];unfold maxI;rw[if_neg (by omega)]
theorem wayGo_in {L:List DLab} {A:List (Int×Int×List Int×List Int)}:∀(f:Nat) (to:Int) (out:List Int),∀i∈wayGo L A f to out,i∈out∨0≤i∧i<A.length
 |0,to,out=>by
  unfold wayGo;split
  ·exact fun i h=>.inl h
  ·exact fun i h=>absurd h List.not_mem_nil
 |f+1,to,out=>by
  unfold wayGo;split
  ·exact fun i h=>.inl h
  split
  ·exact fun i h=>absurd h List.not_mem_nil
  rename_i c;intro i h;rcases wayGo_in f _ _ i h with h|h
  ·rcases List.mem_cons.1 h with rfl|h
   ·exact .inr ⟨by omega,by omega⟩
   ·exact .inl h
  ·exact .inr h
theorem wayF_in {L:List DLab} {A:List (Int×Int×List Int×List Int)} {to:Int}:∀i∈wayF L A to,0≤i∧i<A.length:=by
 unfold wayF;split
 ·exact fun i h=>absurd h List.not_mem_nil
 ·exact fun i h=>(wayGo_in _ _ _ i h).resolve_left List.not_mem_nil
theorem wayGo_len {L:List DLab} {A:List (Int×Int×List Int×List Int)}:∀(f:Nat) (to:Int) (out:List Int),(wayGo L A f to out).length≤f+out.length
 |0,to,out=>by
  unfold wayGo;split
  ·omega
  ·exact Nat.zero_le _
 |f+1,to,out=>by
  unfold wayGo;split
  ·omega
  split
  ·exact Nat.zero_le _
  have:=wayGo_len (L:=L) (A:=A) f ((A.getD (L.getD to.toNat (0,0)).2.toNat (0,0,[],[])).1) ((L.getD to.toNat (0,0)).2::out);rw[List.length_cons] at this;omega
theorem wayF_len {L:List DLab} {A:List (Int×Int×List Int×List Int)} {to:Int}:(wayF L A to).length≤L.length:=by
 unfold wayF;split
 ·exact Nat.zero_le _
 ·exact wayGo_len _ _ _
theorem leg_fold {A:List DArc} (hA:∀a∈A,(toArc a).rightB=true) (e l:Int):∀(W:List Int),(∀i∈W,0≤i∧i<A.length)→∀out:DLeg,0≤out.1→out.1≤out.2→0≤(W.foldl (legStep A e l) out).1∧(W.foldl (legStep A e l) out).1≤(W.foldl (legStep A e l) out).2∧(W.foldl (legStep A e l) out).2≤out.2+600*W.length
 |[],_,out,h0,h1=>⟨h0,h1,by simp⟩
 |i::W,hW,out,h0,h1=>by
  have hi:=hW i (by simp);have hm:A.getD i.toNat (0,0,[],[])∈A:=getD_mem2 (by omega);have hr:(toArc (A.getD i.toNat (0,0,[],[]))).right:=of_decide_eq_true (hA _ hm);have hb:=low_bd hr ((e+out.1) / 60).toNat (hoursN (e+out.1) (l+out.2));have ih:=leg_fold hA e l W (fun j hj=>hW j (by simp[hj])) (legStep A e l out i) (by unfold legStep bndF;dsimp only at hb⊢;omega) (by unfold legStep bndF;dsimp only at hb⊢;omega);rw[List.foldl_cons,List.length_cons];have e2:(legStep A e l out i).2≤out.2+600:=by unfold legStep bndF;dsimp only at hb⊢;omega
  omega
theorem legWay_len {w:DWorld} (h:rightP w=true) (f t:Int) (x:DWin):(legWay w f t x).length≤2000:=Nat.le_trans wayF_len (earlyLen (rightP_iff.1 h).1 _ _ _)
theorem leg_bd {w:DWorld} (h:rightP w=true) (f t:Int) (x:DWin) (k:Nat):0≤(((legWay w f t x).take k).foldl (legStep w.2.1 x.1 x.2) (0,0)).1∧(((legWay w f t x).take k).foldl (legStep w.2.1 x.1 x.2) (0,0)).1≤(((legWay w f t x).take k).foldl (legStep w.2.1 x.1 x.2) (0,0)).2∧(((legWay w f t x).take k).foldl (legStep w.2.1 x.1 x.2) (0,0)).2≤1200000:=by
 have h1:=leg_fold (A:=w.2.1) (fun a ha=>((rightR_n (rightP_iff.1 h).1).2.2.2 a ha).1) x.1 x.2 ((legWay w f t x).take k) (fun i hi=>wayF_in i (List.mem_of_mem_take hi)) (0,0) (Int.le_refl _) (Int.le_refl _);have h2:=legWay_len h f t x;rw[List.length_take] at h1;dsimp only at h1;omega
end T
end Go.Proofs.YtcnfmabhghhdnaaGreat
end
section
namespace Go.Proofs.YtcnfmabhghhdnaaGreat
namespace T
def carAt (w:DWorld) (c:Int):DCar:=w.2.2.1.getD c.toNat (0,0,0,0,0,0,0,0,0)
def reqAt (w:DWorld) (r:Int):DReq:=w.2.2.2.1.getD r.toNat dReq
def asksF (w:DWorld) (c:Int) (ss:List DStop):Bool:=rightP w&&(decide (0≤c∧c<w.2.2.1.length)&&rightS ss w.2.2.2.1)
def winF (w:DWorld) (c:Int) (ss:List DStop):Nat→DWin
 |0=>((carAt w c).2.2.1,(carAt w c).2.2.2.1)
 |k+1=>if (ss.getD k dStop).2=true then ((reqAt w (ss.getD k dStop).1).2.2.2.1,minI (reqAt w (ss.getD k dStop).1).2.2.2.2.1 (carAt w c).2.2.2.1)
  else if ((ss.getD k dStop).1,true)∈ss.take k then ((reqAt w (ss.getD k dStop).1).2.2.2.1,minI (reqAt w (ss.getD k dStop).1).2.2.2.2.2.1 (carAt w c).2.2.2.1)
  else ((carAt w c).2.2.1,minI (reqAt w (ss.getD k dStop).1).2.2.2.2.2.1 (carAt w c).2.2.2.1)
def nodeF (w:DWorld) (c:Int) (ss:List DStop):Nat→Int
 |0=>(carAt w c).2.1
 |k+1=>if (ss.getD k dStop).2=true then (reqAt w (ss.getD k dStop).1).2.1 else (reqAt w (ss.getD k dStop).1).2.2.1
def rideP (w:DWorld) (ss:List DStop) (k:Nat):DRide:=(atF ((ss.getD k dStop).1,true) ss+1,(k:Int)+1,(reqAt w (ss.getD k dStop).1).2.2.2.2.2.2.1)
def rideR (w:DWorld) (ss:List DStop) (k:Nat):DRide:=((k:Int)+1,atF ((ss.getD k dStop).1,false) ss+1,(reqAt w (ss.getD k dStop).1).2.2.2.2.2.2.1)
def dropB (ss:List DStop) (k:Nat):Bool:=!(ss.getD k dStop).2&&decide (((ss.getD k dStop).1,true)∈ss.take k)
def ridesP (w:DWorld) (ss:List DStop) (j:Nat):List DRide:=((List.range j).filter (dropB ss)).map (rideP w ss)
def ridesR (w:DWorld) (ss:List DStop) (j:Nat):List DRide:=((List.range j).filter fun k=>(ss.getD k dStop).2).map (rideR w ss)
def winsF (w:DWorld) (c:Int) (ss:List DStop):List DWin:=(List.range (ss.length+1)).map (winF w c ss)
def legAt (w:DWorld) (c:Int) (ss:List DStop) (k:Nat):DLeg×Bool:=legF w (nodeF w c ss k) (nodeF w c ss (k+1)) (winF w c ss k)
def legsF (w:DWorld) (c:Int) (ss:List DStop):List DLeg:=(List.range ss.length).map fun k=>(legAt w c ss k).1
def badW (w:DWorld) (c:Int) (ss:List DStop) (k:Nat):Bool:=decide ((winF w c ss k).1>(winF w c ss k).2)
def noChain:DChain:=([],[],[])
def chainF (w:DWorld) (c:Int) (ss:List DStop):DChain×Int:=
 if asksF w c ss=false then (noChain,1) else if (List.range (ss.length+1)).any (badW w c ss)=true then (noChain,20)
 else if (List.range ss.length).any (fun k=>!(legAt w c ss k).2)=true then (noChain,4) else ((winsF w c ss,legsF w c ss,ridesR w ss ss.length),0)
theorem asks_iff {w:DWorld} {c:Int} {ss:List DStop}:asksF w c ss=true↔rightP w=true∧(0≤c∧c<w.2.2.1.length)∧RightS ss w.2.2.2.1:=by
 unfold asksF rightS;simp only[Bool.and_eq_true,decide_eq_true_eq]
theorem car_in {w:DWorld} {c:Int} {ss:List DStop} (h:asksF w c ss=true):carB (w.1-1) (carAt w c)=true:=by
 obtain ⟨h1,h2,_⟩:=asks_iff.1 h;exact (rightP_iff.1 h1).2.2.1 _ (getD_mem2 (by omega))
theorem req_in {w:DWorld} {c:Int} {ss:List DStop} (h:asksF w c ss=true) {k:Nat} (hk:k<ss.length):(0≤(ss.getD k dStop).1∧(ss.getD k dStop).1<w.2.2.2.1.length)∧reqB (w.1-1) (reqAt w (ss.getD k dStop).1)=true:=by
 obtain ⟨h1,_,h3⟩:=asks_iff.1 h;have h4:=(h3.2 k hk).1;exact ⟨h4,(rightP_iff.1 h1).2.2.2.1 _ (getD_mem2 (by omega))⟩
theorem carT {m:Int} {c:DCar} (h:carB m c=true):(0≤c.2.1∧c.2.1≤m)∧(0≤c.2.2.1∧c.2.2.1≤1048576)∧(0≤c.2.2.2.1∧c.2.2.2.1≤1048576)∧c.2.2.1≤c.2.2.2.1:=by
 unfold carB allIn at h;simp at h;omega
theorem reqT {m:Int} {q:DReq} (h:reqB m q=true):(0≤q.2.2.2.1∧q.2.2.2.1≤1048576)∧(0≤q.2.2.2.2.1∧q.2.2.2.2.1≤1048576)∧(0≤q.2.2.2.2.2.1∧q.2.2.2.2.2.1≤1048576)∧(0≤q.2.2.2.2.2.2.1∧q.2.2.2.2.2.2.1≤1048576)∧(0≤q.2.1∧q.2.1≤m)∧0≤q.2.2.1∧q.2.2.1≤m:=by
 unfold reqB allIn at h;simp at h;omega
theorem winF_s (w:DWorld) (c:Int) (ss:List DStop) (k:Nat):winF w c ss (k+1)=if (ss.getD k dStop).2=true then ((reqAt w (ss.getD k dStop).1).2.2.2.1,minI (reqAt w (ss.getD k dStop).1).2.2.2.2.1 (carAt w c).2.2.2.1)
  else if ((ss.getD k dStop).1,true)∈ss.take k then ((reqAt w (ss.getD k dStop).1).2.2.2.1,minI (reqAt w (ss.getD k dStop).1).2.2.2.2.2.1 (carAt w c).2.2.2.1)
  else ((carAt w c).2.2.1,minI (reqAt w (ss.getD k dStop).1).2.2.2.2.2.1 (carAt w c).2.2.2.1):=rfl
theorem nodeF_s (w:DWorld) (c:Int) (ss:List DStop) (k:Nat):nodeF w c ss (k+1)=if (ss.getD k dStop).2=true then (reqAt w (ss.getD k dStop).1).2.1 else (reqAt w (ss.getD k dStop).1).2.2.1:=rfl
theorem win_rng {w:DWorld} {c:Int} {ss:List DStop} (h:asksF w c ss=true):∀{k:Nat},k≤ss.length→(0≤(winF w c ss k).1∧(winF w c ss k).1≤1048576)∧0≤(winF w c ss k).2∧(winF w c ss k).2≤1048576
 |0,_=>by
  have:=carT (car_in h);exact ⟨this.2.1,this.2.2.1⟩
 |k+1,hk=>by
  have h1:=carT (car_in h);have h2:=reqT (req_in h (k:=k) (by omega)).2;have h3:=minI_le (reqAt w (ss.getD k dStop).1).2.2.2.2.1 (carAt w c).2.2.2.1;have h4:=minI_le (reqAt w (ss.getD k dStop).1).2.2.2.2.2.1 (carAt w c).2.2.2.1;rw[winF_s];split
  ·dsimp only;omega
  split
  ·dsimp only;omega
  ·dsimp only;omega
theorem ridesR_sorted (w:DWorld) (ss:List DStop) (j:Nat):(ridesR w ss j).Pairwise fun a b=>a.1<b.1:=by
 unfold ridesR;rw[List.pairwise_map];exact (List.Pairwise.filter _ List.pairwise_lt_range).imp fun {a b} h=>by
  show (a:Int)+1<(b:Int)+1;omega
theorem ridesP_sorted (w:DWorld) (ss:List DStop) (j:Nat):(ridesP w ss j).Pairwise fun a b=>a.2.1<b.2.1:=by
 unfold ridesP;rw[List.pairwise_map];exact (List.Pairwise.filter _ List.pairwise_lt_range).imp fun {a b} h=>by
  show (a:Int)+1<(b:Int)+1;omega
theorem ride_pair {w:DWorld} {ss:List DStop} (h:RightS ss w.2.2.2.1) {i k:Nat} (hi:i<ss.length) (hk:k<ss.length) {r:Int} (ei:ss.getD i dStop=(r,true)) (ek:ss.getD k dStop=(r,false)):rideP w ss k=rideR w ss i:=by
 have h1:=h.at_eq hi;have h2:=h.at_eq hk;unfold rideP rideR;rw[ei] at h1;rw[ek] at h2;rw[ei,ek];dsimp only;rw[h1,h2]
theorem pick_drop {ss:List DStop} {rs:List DReq} (h:RightS ss rs) {i:Nat} (hi:i<ss.length) (hp:(ss.getD i dStop).2=true):∃k,i<k∧k<ss.length∧ss.getD k dStop=((ss.getD i dStop).1,false):=by
 obtain ⟨k,h1,h2,h3⟩:=mem_drop_ge ((h.2 i hi).2.2.2 hp);exact ⟨k,by omega,h2,h3⟩
theorem drop_pick {ss:List DStop} {k:Nat} (h:dropB ss k=true):(ss.getD k dStop).2=false∧∃i,i<k∧i<ss.length∧ss.getD i dStop=((ss.getD k dStop).1,true):=by
 unfold dropB at h;rw[Bool.and_eq_true,Bool.not_eq_true',decide_eq_true_eq] at h;obtain ⟨i,h1,h2,h3⟩:=mem_take_lt h.2;exact ⟨h.1,i,h1,h2,h3⟩
theorem rides_perm {w:DWorld} {ss:List DStop} (h:RightS ss w.2.2.2.1):(ridesP w ss ss.length).Perm (ridesR w ss ss.length):=by
 refine (List.perm_ext_iff_of_nodup ?_ ?_).2 fun x=>?_
 ·exact (ridesP_sorted w ss _).imp fun {a b} h e=>by rw[e] at h;exact Int.lt_irrefl _ h
 ·exact (ridesR_sorted w ss _).imp fun {a b} h e=>by rw[e] at h;exact Int.lt_irrefl _ h
 unfold ridesP ridesR;simp only[List.mem_map,List.mem_filter,List.mem_range];constructor
 ·rintro ⟨k,⟨hk,hd⟩,rfl⟩;obtain ⟨h1,i,h2,h3,h4⟩:=drop_pick hd;refine ⟨i,⟨h3,by rw[h4]⟩,?_⟩;exact (ride_pair h h3 hk h4 (by rw[←h1])).symm
 ·rintro ⟨i,⟨hi,hp⟩,rfl⟩;obtain ⟨k,h1,h2,h3⟩:=pick_drop h hi hp;have ei:ss.getD i dStop=((ss.getD i dStop).1,true):=by rw[←hp]
  refine ⟨k,⟨h2,?_⟩,ride_pair h hi h2 ei h3⟩;unfold dropB;rw[h3,Bool.and_eq_true,decide_eq_true_eq];refine ⟨rfl,?_⟩;have:=mem_take_of hi h1;rwa [ei] at this
theorem sorted_eq {a b:List DRide} (hp:a.Perm b) (ha:a.Pairwise fun x y=>x.1≤y.1) (hb:b.Pairwise fun x y=>x.1<y.1):a=b:=by
 refine List.Perm.eq_of_pairwise (le:=fun x y=>x.1≤y.1) (fun x y hx hy h1 h2=>?_) ha (hb.imp fun {x y} h=>Int.le_of_lt h) hp;have hx':=hp.mem_iff.1 hx;have e:x.1=y.1:=Int.le_antisymm h1 h2;obtain ⟨i,hi,rfl⟩:=List.getElem_of_mem hx';obtain ⟨j,hj,rfl⟩:=List.getElem_of_mem hy;have hb:=List.pairwise_iff_getElem.1 hb;rcases Nat.lt_trichotomy i j with c|c|c
 ·have:=hb i j hi hj c;omega
 ·subst c;rfl
 ·have:=hb j i hj hi c;omega
end T
end Go.Proofs.YtcnfmabhghhdnaaGreat
end
