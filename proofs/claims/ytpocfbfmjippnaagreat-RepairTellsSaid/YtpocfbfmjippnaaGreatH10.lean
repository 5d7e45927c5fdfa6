/- Parts of the proof of the law; no condition. -/
import Derived.Test.YtpocfbfmjippnaaGreatH9
set_option linter.all false
section
namespace Go.Proofs.YtpocfbfmjippnaaGreat
namespace T
def carAt (w:DWorld) (c:Int):DCar:=w.2.2.1.getD c.toNat (0,0,0,0,0,0,0,0,0)
def reqAt (w:DWorld) (r:Int):DReq:=w.2.2.2.1.getD r.toNat dReq
def asksF (w:DWorld) (c:Int) (ss:List DStop):Bool:=rightP w&&(decide (0≤c∧c<w.2.2.1.length)&&rightS ss w.2.2.2.1)
def winF (w:DWorld) (c:Int) (ss:List DStop):Nat→DWin
 |0=>((carAt w c).2.2.1,(carAt w c).2.2.2.1)
 |k+1=>if (ss.getD k dStop).2=true then ((reqAt w (ss.getD k dStop).1).2.2.2.1,minI (reqAt w (ss.getD k dStop).1).2.2.2.2.1 (carAt w c).2.2.2.1)
  else if ((ss.getD k dStop).1,true)∈ss.take k then ((reqAt w (ss.getD k dStop).1).2.2.2.1,minI (reqAt w (ss.getD k dStop).1).2.2.2.2.2.1 (carAt w c).2.2.2.1)
  else ((carAt w c).2.2.1,minI (reqAt w (ss.getD k dStop).1).2.2.2.2.2.1 (carAt w c).2.2.2.1)
def nodeF (w:DWorld) (c:Int) (ss:List DStop):Nat→Int
 |0=>(carAt w c).2.1
 |k+1=>if (ss.getD k dStop).2=true then (reqAt w (ss.getD k dStop).1).2.1 else (reqAt w (ss.getD k dStop).1).2.2.1
def rideP (w:DWorld) (ss:List DStop) (k:Nat):DRide:=(atF ((ss.getD k dStop).1,true) ss+1,(k:Int)+1,(reqAt w (ss.getD k dStop).1).2.2.2.2.2.2.1)
def rideR (w:DWorld) (ss:List DStop) (k:Nat):DRide:=((k:Int)+1,atF ((ss.getD k dStop).1,false) ss+1,(reqAt w (ss.getD k dStop).1).2.2.2.2.2.2.1)
def dropB (ss:List DStop) (k:Nat):Bool:=!(ss.getD k dStop).2&&decide (((ss.getD k dStop).1,true)∈ss.take k)
def ridesP (w:DWorld) (ss:List DStop) (j:Nat):List DRide:=((List.range j).filter (dropB ss)).map (rideP w ss)
def ridesR (w:DWorld) (ss:List DStop) (j:Nat):List DRide:=((List.range j).filter fun k=>(ss.getD k dStop).2).map (rideR w ss)
def winsF (w:DWorld) (c:Int) (ss:List DStop):List DWin:=(List.range (ss.length+1)).map (winF w c ss)
def legAt (w:DWorld) (c:Int) (ss:List DStop) (k:Nat):DLeg×Bool:=legF w (nodeF w c ss k) (nodeF w c ss (k+1)) (winF w c ss k)
def legsF (w:DWorld) (c:Int) (ss:List DStop):List DLeg:=(List.range ss.length).map fun k=>(legAt w c ss k).1
def badW (w:DWorld) (c:Int) (ss:List DStop) (k:Nat):Bool:=decide ((winF w c ss k).1>(winF w c ss k).2)
def noChain:DChain:=([],[],[])
def chainF (w:DWorld) (c:Int) (ss:List DStop):DChain×Int:=
 if asksF w c ss=false then (noChain,1) else if (List.range (ss.length+1)).any (badW w c ss)=true then (noChain,20)
 else if (List.range ss.length).any (fun k=>!(legAt w c ss k).2)=true then (noChain,4) else ((winsF w c ss,legsF w c ss,ridesR w ss ss.length),0)
theorem asks_iff {w:DWorld} {c:Int} {ss:List DStop}:asksF w c ss=true↔rightP w=true∧(0≤c∧c<w.2.2.1.length)∧RightS ss w.2.2.2.1:=by
 unfold asksF rightS;simp only[Bool.and_eq_true,decide_eq_true_eq]
theorem car_in {w:DWorld} {c:Int} {ss:List DStop} (h:asksF w c ss=true):carB (w.1-1) (carAt w c)=true:=by
 obtain ⟨h1,h2,_⟩:=asks_iff.1 h;exact (rightP_iff.1 h1).2.2.1 _ (getD_mem2 (by omega))
theorem req_in {w:DWorld} {c:Int} {ss:List DStop} (h:asksF w c ss=true) {k:Nat} (hk:k<ss.length):(0≤(ss.getD k dStop).1∧(ss.getD k dStop).1<w.2.2.2.1.length)∧reqB (w.1-1) (reqAt w (ss.getD k dStop).1)=true:=by
 obtain ⟨h1,_,h3⟩:=asks_iff.1 h;have h4:=(h3.2 k hk).1;exact ⟨h4,(rightP_iff.1 h1).2.2.2.1 _ (getD_mem2 (by omega))⟩
theorem carT {m:Int} {c:DCar} (h:carB m c=true):(0≤c.2.1∧c.2.1≤m)∧(0≤c.2.2.1∧c.2.2.1≤1048576)∧(0≤c.2.2.2.1∧c.2.2.2.1≤1048576)∧c.2.2.1≤c.2.2.2.1:=by
 unfold carB allIn at h;simp at h;omega
theorem reqT {m:Int} {q:DReq} (h:reqB m q=true):(0≤q.2.2.2.1∧q.2.2.2.1≤1048576)∧(0≤q.2.2.2.2.1∧q.2.2.2.2.1≤1048576)∧(0≤q.2.2.2.2.2.1∧q.2.2.2.2.2.1≤1048576)∧(0≤q.2.2.2.2.2.2.1∧q.2.2.2.2.2.2.1≤1048576)∧(0≤q.2.1∧q.2.1≤m)∧0≤q.2.2.1∧q.2.2.1≤m:=by
 unfold reqB allIn at h;simp at h;omega
theorem winF_s (w:DWorld) (c:Int) (ss:List DStop) (k:Nat):winF w c ss (k+1)=if (ss.getD k dStop).2=true then ((reqAt w (ss.getD k dStop).1).2.2.2.1,minI (reqAt w (ss.getD k dStop).1).2.2.2.2.1 (carAt w c).2.2.2.1)
  else if ((ss.getD k dStop).1,true)∈ss.take k then ((reqAt w (ss.getD k dStop).1).2.2.2.1,minI (reqAt w (ss.getD k dStop).1).2.2.2.2.2.1 (carAt w c).2.2.2.1)
  else ((carAt w c).2.2.1,minI (reqAt w (ss.getD k dStop).1).2.2.2.2.2.1 (carAt w c).2.2.2.1):=rfl
theorem nodeF_s (w:DWorld) (c:Int) (ss:List DStop) (k:Nat):nodeF w c ss (k+1)=if (ss.getD k dStop).2=true then (reqAt w (ss.getD k dStop).1).2.1 else (reqAt w (ss.getD k dStop).1).2.2.1:=rfl
theorem win_rng {w:DWorld} {c:Int} {ss:List DStop} (h:asksF w c ss=true):∀{k:Nat},k≤ss.length→(0≤(winF w c ss k).1∧(winF w c ss k).1≤1048576)∧0≤(winF w c ss k).2∧(winF w c ss k).2≤1048576
 |0,_=>by
  have:=carT (car_in h);exact ⟨this.2.1,this.2.2.1⟩
 |k+1,hk=>by
  have h1:=carT (car_in h);have h2:=reqT (req_in h (k:=k) (by omega)).2;have h3:=minI_le (reqAt w (ss.getD k dStop).1).2.2.2.2.1 (carAt w c).2.2.2.1;have h4:=minI_le (reqAt w (ss.getD k dStop).1).2.2.2.2.2.1 (carAt w c).2.2.2.1;rw[winF_s];split
  ·dsimp only;omega
  split
  ·dsimp only;omega
  ·dsimp only;omega
theorem ridesR_sorted (w:DWorld) (ss:List DStop) (j:Nat):(ridesR w ss j).Pairwise fun a b=>a.1<b.1:=by
 unfold ridesR;rw[List.pairwise_map];exact (List.Pairwise.filter _ List.pairwise_lt_range).imp fun {a b} h=>by
  show (a:Int)+1<(b:Int)+1;omega
theorem ridesP_sorted (w:DWorld) (ss:List DStop) (j:Nat):(ridesP w ss j).Pairwise fun a b=>a.2.1<b.2.1:=by
 unfold ridesP;rw[List.pairwise_map];exact (List.Pairwise.filter _ List.pairwise_lt_range).imp fun {a b} h=>by
  show (a:Int)+1<(b:Int)+1;omega
theorem ride_pair {w:DWorld} {ss:List DStop} (h:RightS ss w.2.2.2.1) {i k:Nat} (hi:i<ss.length) (hk:k<ss.length) {r:Int} (ei:ss.getD i dStop=(r,true)) (ek:ss.getD k dStop=(r,false)):rideP w ss k=rideR w ss i:=by
 have h1:=h.at_eq hi;have h2:=h.at_eq hk;unfold rideP rideR;rw[ei] at h1;rw[ek] at h2;rw[ei,ek];dsimp only;rw[h1,h2]
theorem pick_drop {ss:List DStop} {rs:List DReq} (h:RightS ss rs) {i:Nat} (hi:i<ss.length) (hp:(ss.getD i dStop).2=true):∃k,i<k∧k<ss.length∧ss.getD k dStop=((ss.getD i dStop).1,false):=by
 obtain ⟨k,h1,h2,h3⟩:=mem_drop_ge ((h.2 i hi).2.2.2 hp);exact ⟨k,by omega,h2,h3⟩
theorem drop_pick {ss:List DStop} {k:Nat} (h:dropB ss k=true):(ss.getD k dStop).2=false∧∃i,i<k∧i<ss.length∧ss.getD i dStop=((ss.getD k dStop).1,true):=by
 unfold dropB at h;rw[Bool.and_eq_true,Bool.not_eq_true',decide_eq_true_eq] at h;obtain ⟨i,h1,h2,h3⟩:=mem_take_lt h.2;exact ⟨h.1,i,h1,h2,h3⟩
theorem rides_perm {w:DWorld} {ss:List DStop} (h:RightS ss w.2.2.2.1):(ridesP w ss ss.length).Perm (ridesR w ss ss.length):=by
 refine (List.perm_ext_iff_of_nodup ?_ ?_).2 fun x=>?_
 ·exact (ridesP_sorted w ss _).imp fun {a b} h e=>by rw[e] at h;exact Int.lt_irrefl _ h
 ·exact (ridesR_sorted w ss _).imp fun {a b} h e=>by rw[e] at h;exact Int.lt_irrefl _ h
 unfold ridesP ridesR;simp only[List.mem_map,List.mem_filter,List.mem_range];constructor
 ·rintro ⟨k,⟨hk,hd⟩,rfl⟩;obtain ⟨h1,i,h2,h3,h4⟩:=drop_pick hd;refine ⟨i,⟨h3,by rw[h4]⟩,?_⟩;exact (ride_pair h h3 hk h4 (by rw[←h1])).symm
 ·rintro ⟨i,⟨hi,hp⟩,rfl⟩;obtain ⟨k,h1,h2,h3⟩:=pick_drop h hi hp;have ei:ss.getD i dStop=((ss.getD i dStop).1,true):=by rw[←hp]
  refine ⟨k,⟨h2,?_⟩,ride_pair h hi h2 ei h3⟩;unfold dropB;rw[h3,Bool.and_eq_true,decide_eq_true_eq];refine ⟨rfl,?_⟩;have:=mem_take_of hi h1;rwa [ei] at this
theorem sorted_eq {a b:List DRide} (hp:a.Perm b) (ha:a.Pairwise fun x y=>x.1≤y.1) (hb:b.Pairwise fun x y=>x.1<y.1):a=b:=by
 refine List.Perm.eq_of_pairwise (le:=fun x y=>x.1≤y.1) (fun x y hx hy h1 h2=>?_) ha (hb.imp fun {x y} h=>Int.le_of_lt h) hp;have hx':=hp.mem_iff.1 hx;have e:x.1=y.1:=Int.le_antisymm h1 h2;obtain ⟨i,hi,rfl⟩:=List.getElem_of_mem hx';obtain ⟨j,hj,rfl⟩:=List.getElem_of_mem hy;have hb:=List.pairwise_iff_getElem.1 hb;rcases Nat.lt_trichotomy i j with c|c|c
 ·have:=hb i j hi hj c;omega
 ·subst c;rfl
 ·have:=hb j i hj hi c;omega
def waitAt (c:DChain) (g:List Int) (k:Nat):DLeg:=
 if k=0 then (0,0) else ((playF g (highsF c.2.1)).getD k 0-(playF g (highsF c.2.1)).getD (k-1) 0-(c.2.1.getD (k-1) (0,0)).2,(playF g (lowsF c.2.1)).getD k 0-(playF g (lowsF c.2.1)).getD (k-1) 0-(c.2.1.getD (k-1) (0,0)).1)
def waitsF (c:DChain) (g:List Int):List DLeg:=(List.range c.2.1.length).map (waitAt c g)
def waitsTo (c:DChain) (g:List Int) (j:Nat):List DLeg:=(List.range c.2.1.length).map fun k=>if k<j then waitAt c g k else (0,0)
def restsF (w:DWorld) (c:DChain) (g:List Int):Bool:=decide ((checkK w.2.2.2.2.2 c.2.1 (waitsF c g)).2=0)
theorem waitsTo_len (c:DChain) (g:List Int) (j:Nat):(waitsTo c g j).length=c.2.1.length:=by unfold waitsTo;rw[List.length_map,List.length_range]
theorem waitsTo_at (c:DChain) (g:List Int) (j k:Nat) (h:k<(waitsTo c g j).length):(waitsTo c g j)[k]=if k<j then waitAt c g k else (0,0):=by simp[waitsTo]
theorem waitsTo_1 (c:DChain) (g:List Int):waitsTo c g 1=List.replicate c.2.1.length (0,0):=by
 refine List.ext_getElem (by rw[waitsTo_len,List.length_replicate]) fun k h1 h2=>?_;rw[waitsTo_at,List.getElem_replicate];split
 ·rw[show k=0 by omega];rfl
 ·rfl
theorem waitsTo_set (c:DChain) (g:List Int) (j:Nat):(waitsTo c g j).set j (waitAt c g j)=waitsTo c g (j+1):=by
 refine List.ext_getElem (by rw[List.length_set,waitsTo_len,waitsTo_len]) fun k h1 h2=>?_;rw[List.getElem_set,waitsTo_at,waitsTo_at];by_cases q:j=k
 ·subst q;rw[if_pos rfl,if_pos (by omega)]
 ·rw[if_neg q];by_cases q2:k<j
  ·rw[if_pos q2,if_pos (by omega)]
  ·rw[if_neg q2,if_neg (by omega)]
theorem waitsTo_all (c:DChain) (g:List Int) {j:Nat} (h:c.2.1.length≤j):waitsTo c g j=waitsF c g:=by
 unfold waitsTo waitsF;refine List.map_congr_left fun k hk=>?_;have:=List.mem_range.1 hk;rw[if_pos (by omega)]
theorem legs_took {c:DChain} (h:rightC c=true):tookB c.2.1 (lowsF c.2.1)=true∧tookB c.2.1 (highsF c.2.1)=true:=by
 refine ⟨tookB_iff.2 ⟨lows_len _,fun k hk=>?_⟩,tookB_iff.2 ⟨highs_len _,fun k hk=>?_⟩⟩
 ·rw[lows_getD];have:=right_leg h hk;omega
 ·rw[highs_getD];have:=right_leg h hk;omega
theorem rn_lows {c:DChain} {g:List Int} (h:fitsG c g=true):rnF c g (lowsF c.2.1)=(playF g (lowsF c.2.1),0):=by
 unfold rnF;rw[if_pos ⟨h,(legs_took (fitsG_iff.1 h).1).1⟩]
theorem rn_highs {c:DChain} {g:List Int} (h:fitsG c g=true):rnF c g (highsF c.2.1)=(playF g (highsF c.2.1),0):=by
 unfold rnF;rw[if_pos ⟨h,(legs_took (fitsG_iff.1 h).1).2⟩]
end T
end Go.Proofs.YtpocfbfmjippnaaGreat
end
section
namespace Go.Proofs.YtpocfbfmjippnaaGreat
open Go.RowKit Go.IntWalk
namespace T
def entCat:Ent:=⟨97,.cons Z14 .nil,Z5,false,none,fun x=>(x.1:List (List Int)).length≤1000∧∀l∈(x.1:List (List Int)),l.length≤1000,fun x=>(x.1:List (List Int)).flatten⟩
def csCat:List Ent:=[entGrow0] theorem hcsCat (f:FuncId):findEnt csCat f=findEnt [entGrow0] f:=rfl
theorem flat_take {S:List (List Int)} {j:Nat} (h:j<S.length):(S.take j).flatten++S.getD j []=(S.take (j+1)).flatten:=by
 rw[List.take_succ_eq_append_getElem h,List.flatten_append];simp[List.getD,h]
theorem flat_len {S:List (List Int)} (h:∀l∈S,l.length≤1000):∀j,(S.take j).flatten.length≤1000*j
 |0=>by simp
 |j+1=>by
  rcases Nat.lt_or_ge j S.length with q|q
  ·rw[←flat_take q,List.length_append];have h1:=flat_len h j;have h2:(S.getD j []).length≤1000:=h _ (by rw[List.getD_eq_getElem?_getD,List.getElem?_eq_getElem q];exact List.getElem_mem q);omega
  ·have h1:=flat_len h j;rw[List.take_of_length_le (by omega)];rw[List.take_of_length_le q] at h1;omega
set_option maxHeartbeats 1000000 in
theorem conCat:Con Tryz.prog entCat:=by
 refine con_is (C:=csCat) x97 (by kernel_rfl) (by simp[csCat,conGrow0]) fun x hx hf=>?_;obtain ⟨(S:List (List Int)),_⟩:=x;obtain ⟨hSl,hSe⟩:=hx;replace hSl:S.length≤1000:=hSl;replace hSe:∀l∈S,l.length≤1000:=hSe;dsimp only[entCat,x97];simp only[↓hcsCat,entGrow0,go_sem];try simp only[td,reduceCtorEq]
 refine XW_for 1000 x97_0d [] Nat (fun j=>[(11,.val Z1 (j:Int)),(3,.val Z1 (((S.take j).flatten.length:Nat):Int))]) (fun _=>[]) (fun j=>j≤S.length) (fun j=>S.length-j) 0 ?_ ?_ ?_
 ·dsimp only[x97_0d];simp only[go_sem];try trivial
 ·exact Nat.zero_le _
 intro j hj;by_cases hjl:j<S.length
 ·have w2:IntKind.i64.wrap ((j:Int)+1)=((j+1:Nat):Int):=i64_in _ (by omega);have h1:=flat_len hSe (j+1);have h2:(S.take (j+1)).flatten.length=(S.take j).flatten.length+(S.getD j []).length:=by rw[←flat_take hjl,List.length_append]
  have w3:IntKind.i64.wrap (((S.take j).flatten.length:Int)+((S.getD j []).length:Int))=(((S.take (j+1)).flatten.length:Nat):Int):=(i64_in _ (by omega)).trans (by omega);dsimp only[x97_0,x97_0d,Z5,Za,Zb,Ze];simp only[↓hcsCat,entGrow0,hjl,w2,w3,go_sem];simp only[hjl,w2,w3,td,reduceCtorEq];exact ⟨fun h=>by omega,j+1,by omega,by omega,rfl,rfl⟩
 ·obtain rfl:j=S.length:=by omega
  have hfl:(S.take S.length).flatten=S.flatten:=by rw[List.take_length]
  have h1:=flat_len hSe S.length;rw[hfl] at h1;have h2:(0:Int)≤(S.flatten.length:Int):=by omega
  have h3:(S.flatten.length:Int)≤1000000:=by omega
  dsimp only[x97_0,x97_0d,Z5,Za,Zb,Ze];simp only[↓hcsCat,entGrow0,hjl,hfl,h2,h3,go_sem];simp only[hjl,hfl,h2,h3,td,reduceCtorEq];refine XW_for 2000 x97_1d [] Nat (fun j=>[(27,.val Z1 (j:Int)),(6,.own 1002)]) (fun j=>[(1002,.row 3 (.int .i64) (S.take j).flatten)]) (fun j=>j≤S.length) (fun j=>S.length-j) 0 ?_ ?_ ?_
  ·dsimp only[x97_1d];simp only[go_sem];try trivial
  ·exact Nat.zero_le _
  intro j hj;by_cases hjl:j<S.length
  ·have w2:IntKind.i64.wrap ((j:Int)+1)=((j+1:Nat):Int):=i64_in _ (by omega);have hft:=flat_take hjl;have h4:=flat_len hSe j;have h5:(S.getD j []).length≤1000:=hSe _ (by rw[List.getD_eq_getElem?_getD,List.getElem?_eq_getElem hjl];exact List.getElem_mem hjl);dsimp only[x97_1,x97_1d];simp only[↓hcsCat,entGrow0,hjl,w2,hft,go_sem];simp only[hjl,w2,hft,td,reduceCtorEq];refine ⟨?_,j+1,by omega,by omega,rfl,rfl⟩;show ((S.take j).flatten.length+(S.getD j []).length)*8≤140737488355328;omega
  ·obtain rfl:j=S.length:=by omega
   dsimp only[x97_1,x97_1d];simp only[↓hcsCat,entGrow0,hjl,hfl,go_sem];try simp only[hjl,hfl,td,reduceCtorEq]
end T
end Go.Proofs.YtpocfbfmjippnaaGreat
end
