/- Parts of the proof of the law; no condition. -/
import Derived.Test.YtcnfmabhghhdnaaGreatA43
set_option linter.all false
section
namespace Go.Proofs.YtcnfmabhghhdnaaGreat
open Go.RowKit Go.IntWalk
namespace T
theorem ridesR_no (w:DWorld) {ss:List DStop} {j:Nat} (h:(ss.getD j dStop).2=false):ridesR w ss j=ridesR w ss (j+1):=by
 unfold ridesR;rw[List.range_succ,List.filter_append,List.filter_cons_of_neg (by rw[h];simp),List.filter_nil,List.append_nil]
theorem ridesR_yes (w:DWorld) {ss:List DStop} {j:Nat} (h:(ss.getD j dStop).2=true):ridesR w ss j++[rideR w ss j]=ridesR w ss (j+1):=by
 unfold ridesR;rw[List.range_succ,List.filter_append,List.filter_cons_of_pos (p:=fun k=>(ss.getD k dStop).2) h,List.map_append];rfl
theorem ridesR_le (w:DWorld) (ss:List DStop) (j:Nat):(ridesR w ss j).length≤j:=by
 unfold ridesR;rw[List.length_map];exact Nat.le_trans (List.length_filter_le _ _) (by rw[List.length_range];omega)
def entChR:Ent:=⟨110,.cons Z24 (.cons Z1 (.cons Z12 .nil)),.cons Z11 (.cons Z1 .nil),true,none,fun _=>True,fun x=>((chainF x.1 x.2.1 x.2.2.1).1,(chainF x.1 x.2.1 x.2.2.1).2,())⟩
def csChR:List Ent:=[entAs20,entLr20,entNd20,entWn20] theorem hcsChR (f:FuncId):findEnt csChR f=findEnt [entAs20,entLr20,entNd20,entWn20] f:=rfl
set_option maxRecDepth 10000 in
set_option maxHeartbeats 4000000 in
theorem conChR:Con Tryz.prog entChR:=by
 refine con_is (C:=csChR) x110 (by kernel_rfl) (by simp[csChR,conAs20,conLr20,conNd20,conWn20]) fun x hx hf=>?_;obtain ⟨⟨(N:Int),(A:List DArc),(C:List DCar),(Q:List DReq),(P:List DPair),(S1:Int),(S2:Int),(S3:Int)⟩,(c:Int),(ss:List DStop),_⟩:=x;cases ha:asksF (N,A,C,Q,P,S1,S2,S3) c ss with
 |false=>
  have hz:chainF (N,A,C,Q,P,S1,S2,S3) c ss=(([],[],[]),1):=by unfold chainF;rw[if_pos ha];rfl
  dsimp only[entChR,x110,Z11,Z24,Zb,Zg,Zi];simp only[↓hcsChR,entAs20,entLr20,entNd20,entWn20,ha,hz,go_sem];try simp only[ha,hz,td,reduceCtorEq]
 |true=>
  obtain ⟨hw,hc,hss⟩:=asks_iff.1 ha;dsimp only at hc hss;dsimp only[entChR,x110,Z11,Z24,Zb,Zg,Zi];simp only[↓hcsChR,entAs20,entLr20,entNd20,entWn20,ha,go_sem];try simp only[ha,td,reduceCtorEq]
  have hL80:ss.length≤80:=hss.1.1;refine XW_nilb 9 0 121 Z2 rfl rfl ?_;refine XW_nilb 9 1 85 Z2 rfl rfl ?_;refine XW_nilb 9 2 125 Z5 rfl rfl ?_;refine XW_for 1000 x110_0d [0,1,14,16] Nat (fun k=>[(9,.val Z1 (k:Int))])
   (fun k=>[(9,.box 80 [.own 12,.own 14,.own 16]),(12,.row 121 Z2 ((List.range k).map (winF (N,A,C,Q,P,S1,S2,S3) c ss)))])
   (fun k=>k≤ss.length+1∧∀i,i<k→badW (N,A,C,Q,P,S1,S2,S3) c ss i=false) (fun k=>ss.length+1-k) 0 ?_ ?_ ?_
  ·dsimp only[x110_0d];simp only[go_sem];try trivial
  ·exact ⟨Nat.zero_le _,fun i hi=>by omega⟩
  ·rintro k ⟨hk,hB⟩;by_cases hkl:k≤ss.length
   ·have w2:IntKind.i64.wrap ((k:Int)+1)=((k+1:Nat):Int):=i64_in _ (by omega);have hwl:((List.range k).map (winF (N,A,C,Q,P,S1,S2,S3) c ss)).length=k:=by rw[List.length_map,List.length_range]
    have hms:=range_map_s (winF (N,A,C,Q,P,S1,S2,S3) c ss) k;have hcb:=chain_bad (j:=k) ha hkl;have hbw:badW (N,A,C,Q,P,S1,S2,S3) c ss k=decide ((winF (N,A,C,Q,P,S1,S2,S3) c ss k).1>(winF (N,A,C,Q,P,S1,S2,S3) c ss k).2):=rfl;have hki:(k:Int)≤(ss.length:Int):=by omega
    generalize hWk:winF (N,A,C,Q,P,S1,S2,S3) c ss k=wk at hms hbw;obtain ⟨wa,wb⟩:=wk;dsimp only[x110_0,x110_0d,Z1,Z11,Z2,Z24,Z3,Za,Zb,Zc,Zd,Zg,Zi];simp only[↓hcsChR,entAs20,entLr20,entNd20,entWn20,hki,ha,w2,hWk,hwl,go_sem];simp only[hki,ha,w2,hWk,hwl,td,reduceCtorEq];refine ⟨fun h=>?_,fun h=>⟨by omega,k+1,by omega,⟨by omega,fun i hi=>?_⟩,rfl,hms⟩⟩
    ·rw[hcb (by rw[hbw];exact decide_eq_true h)]
    ·rcases Nat.lt_or_ge i k with q|q
     ·exact hB i q
     ·rw[show i=k by omega,hbw];exact decide_eq_false (Int.not_lt.2 h)
   ·obtain rfl:k=ss.length+1:=by omega
    have hkn:¬((ss.length+1:Nat):Int)≤(ss.length:Int):=by omega
    dsimp only[x110_0,x110_0d,Z1,Z11,Z2,Z24,Z3,Za,Zb,Zc,Zd,Zg,Zi];simp only[↓hcsChR,entAs20,entLr20,entNd20,entWn20,hkn,go_sem];try simp only[hkn,td,reduceCtorEq]
    refine XW_for 2000 x110_1d [0,1,9,12,16] Nat (fun k=>[(11,.val Z1 (k:Int))])
     (fun k=>[(14,.row 85 Z2 ((List.range k).map fun k=>(legAt (N,A,C,Q,P,S1,S2,S3) c ss k).1))])
     (fun k=>k≤ss.length∧∀k',k'<k→(legAt (N,A,C,Q,P,S1,S2,S3) c ss k').2=true) (fun k=>ss.length-k) 0 ?_ ?_ ?_
    ·dsimp only[x110_1d];simp only[go_sem];try trivial
    ·exact ⟨Nat.zero_le _,fun k hk=>by omega⟩
    ·rintro k ⟨hk,hB'⟩;by_cases hkl:k<ss.length
     ·have w2:IntKind.i64.wrap ((k:Int)+1)=((k+1:Nat):Int):=i64_in _ (by omega);have hki:(k:Int)≤(ss.length:Int):=by omega
      have hki':((k+1:Nat):Int)≤(ss.length:Int):=by omega
      have hwd:((List.range (ss.length+1)).map (winF (N,A,C,Q,P,S1,S2,S3) c ss)).getD k (0,0)=winF (N,A,C,Q,P,S1,S2,S3) c ss k:=by
       rw[List.getD_eq_getElem?_getD,List.getElem?_map,List.getElem?_range (by omega)];rfl
      have hwl:((List.range (ss.length+1)).map (winF (N,A,C,Q,P,S1,S2,S3) c ss)).length=ss.length+1:=by rw[List.length_map,List.length_range]
      have hll:((List.range k).map fun k=>(legAt (N,A,C,Q,P,S1,S2,S3) c ss k).1).length=k:=by rw[List.length_map,List.length_range]
      have hLg:legF (N,A,C,Q,P,S1,S2,S3) (nodeF (N,A,C,Q,P,S1,S2,S3) c ss k) (nodeF (N,A,C,Q,P,S1,S2,S3) c ss (k+1)) (winF (N,A,C,Q,P,S1,S2,S3) c ss k)=legAt (N,A,C,Q,P,S1,S2,S3) c ss k:=rfl;have hwr:=win_rng ha (k:=k) (by omega);have hbk:(winF (N,A,C,Q,P,S1,S2,S3) c ss k).1≤(winF (N,A,C,Q,P,S1,S2,S3) c ss k).2:=by
       have:=hB k (by omega);unfold badW at this;have:=of_decide_eq_false this;omega
      have hkw:k<ss.length+1:=by omega
      dsimp only[x110_1,x110_1d,Z11,Z2,Z24,Z3,Za,Zb,Zc,Zd,Zf,Zg];simp only[↓hcsChR,entAs20,entLr20,entNd20,entWn20,hkl,hki,hki',w2,hwd,hwl,hll,hLg,hw,ha,hkw,go_sem];simp only[hkl,hki,hki',w2,hwd,hwl,hll,hLg,hw,ha,hkw,td,reduceCtorEq];refine ⟨⟨hwr,hbk⟩,fun h=>?_,fun h=>⟨by omega,k+1,by omega,⟨by omega,fun k' hk'=>?_⟩,rfl,range_map_s _ k⟩⟩
      ·have hz:chainF (N,A,C,Q,P,S1,S2,S3) c ss=(([],[],[]),4):=by
        unfold chainF;rw[if_neg (by rw[ha];simp),if_neg ?_,if_pos (List.any_eq_true.2 ⟨k,List.mem_range.2 hkl,by rw[h];rfl⟩)];· rfl
        intro h';obtain ⟨i,hi,hb⟩:=List.any_eq_true.1 h';rw[hB i (List.mem_range.1 hi)] at hb;exact Bool.noConfusion hb
       rw[hz]
      ·rcases Nat.lt_or_ge k' k with q|q
       ·exact hB' k' q
       ·rw[show k'=k by omega];exact h
     ·obtain rfl:k=ss.length:=by omega
      dsimp only[x110_1,x110_1d,Z11,Z2,Z24,Z3,Za,Zb,Zc,Zd,Zf,Zg];simp only[↓hcsChR,entAs20,entLr20,entNd20,entWn20,hkl,go_sem];simp only[hkl,td,reduceCtorEq];have hz:chainF (N,A,C,Q,P,S1,S2,S3) c ss=((winsF (N,A,C,Q,P,S1,S2,S3) c ss,legsF (N,A,C,Q,P,S1,S2,S3) c ss,ridesR (N,A,C,Q,P,S1,S2,S3) ss ss.length),0):=by
       unfold chainF;rw[if_neg (by rw[ha];simp),if_neg ?_,if_neg ?_]
       ·intro h';obtain ⟨i,hi,hb⟩:=List.any_eq_true.1 h';rw[hB' i (List.mem_range.1 hi)] at hb;exact Bool.noConfusion hb
       ·intro h';obtain ⟨i,hi,hb⟩:=List.any_eq_true.1 h';rw[hB i (List.mem_range.1 hi)] at hb;exact Bool.noConfusion hb
      refine XW_for 3000 x110_2d [0,1,9,12,14] Nat (fun k=>[(14,.val Z1 (k:Int))])
       (fun k=>[(16,.row 125 Z5 (ridesR (N,A,C,Q,P,S1,S2,S3) ss k))])
       (fun k=>k≤ss.length) (fun k=>ss.length-k) 0 ?_ ?_ ?_
      ·dsimp only[x110_2d];simp only[go_sem];try trivial
      ·exact Nat.zero_le _
      ·rintro k hk;by_cases hkl:k<ss.length
       ·have w2:IntKind.i64.wrap ((k:Int)+1)=((k+1:Nat):Int):=i64_in _ (by omega);have hq:=(hss.2 k hkl).1;have hat:=fun {m:Nat} (hm:m<ss.length)=>hss.at_eq hm;have hpd:=pick_drop hss hkl;have hrk:rideR (N,A,C,Q,P,S1,S2,S3) ss k=((k:Int)+1,atF ((ss.getD k dStop).1,false) ss+1,(Q.getD (ss.getD k dStop).1.toNat (0,0,0,0,0,0,0,0,0,0)).2.2.2.2.2.2.1):=rfl;have hry:=ridesR_yes (N,A,C,Q,P,S1,S2,S3) (ss:=ss) (j:=k);have hrn:=ridesR_no (N,A,C,Q,P,S1,S2,S3) (ss:=ss) (j:=k);have hrl:=ridesR_le (N,A,C,Q,P,S1,S2,S3) ss k;have hatk:=hat hkl;generalize hS:ss.getD k dStop=st at hq hpd hrk hry hrn hatk;have hS':ss.getD k (0,false)=st:=hS;obtain ⟨r,p⟩:=st;dsimp only at hq hpd hrk hry hrn;cases p with
        |false=>
         replace hrn:=hrn rfl;dsimp only[x110_2,x110_2d,Z8,Za,Zb,Zg];simp only[↓hcsChR,entAs20,entLr20,entNd20,entWn20,hkl,w2,hS',go_sem];simp only[hkl,w2,hS',td,reduceCtorEq];exact ⟨k+1,by omega,by omega,rfl,hrn⟩
        |true=>
         obtain ⟨d,hd1,hd2,hd3⟩:=hpd rfl;replace hry:=hry rfl;have hatd:=hat hd2;rw[hd3] at hatd;rw[hatd] at hrk;obtain ⟨r,rfl⟩:∃z:Nat,r=z:=⟨r.toNat,by omega⟩;have hql:r<Q.length:=by omega
         rw[Int.toNat_natCast] at hrk;dsimp only[x110_2,x110_2d,Z8,Za,Zb,Zg];simp only[↓hcsChR,entAs20,entLr20,entNd20,entWn20,hkl,w2,hS',go_sem];simp only[hkl,w2,hS',td,reduceCtorEq];refine XW_for 4000 x110_3d [0,1,9,12,14] Nat (fun m=>[(15,.val Z1 ((k+1+m:Nat):Int))])
          (fun m=>[(16,.row 125 Z5 (ridesR (N,A,C,Q,P,S1,S2,S3) ss k++if d<k+1+m then [rideR (N,A,C,Q,P,S1,S2,S3) ss k] else []))])
          (fun m=>k+1+m≤ss.length) (fun m=>ss.length-m) 0 ?_ ?_ ?_
         ·dsimp only[x110_3d];simp only[go_sem];try trivial
          rw[if_neg (by omega),List.append_nil]
         ·show k+1+0≤ss.length;omega
         ·rintro m hm;by_cases hml:k+1+m<ss.length
          ·have hmi:((k+1+m:Nat):Int)<(ss.length:Int):=by omega
           have w3:IntKind.i64.wrap (((k+1+m:Nat):Int)+1)=((k+1+(m+1):Nat):Int):=(i64_in _ (by omega)).trans (by omega);have hatm:=hat hml;generalize hT:ss.getD (k+1+m) dStop=t at hatm;have hT':ss.getD (k+1+m) (0,false)=t:=hT;obtain ⟨t1,t2⟩:=t;dsimp only[x110_3,x110_3d,Z1,Z5,Z6,Z7,Z8,Z9,Za,Zb,Zc,Zf,Zg];simp only[↓hcsChR,entAs20,entLr20,entNd20,entWn20,hml,hmi,w2,w3,hS',hT',hkl,hql,go_sem];simp only[hml,hmi,w2,w3,hS',hT',hkl,hql,td,reduceCtorEq];have hk1:t1=(r:Int)→k+1+m=d:=fun h=>by
            subst h;cases t2 with
            |true=>have:=hatm.symm.trans hatk;omega
            |false=>have:=hatm.symm.trans hatd;omega
           have hk2:k+1+m=d→t1=(r:Int):=fun h=>by
            rw[h,hd3] at hT;exact (Prod.mk.inj hT).1.symm
           refine ⟨fun h=>?_,fun h=>⟨m+1,by omega,by omega,rfl,?_⟩⟩
           ·have e:=hk1 h;rw[if_neg (by omega),List.append_nil];refine ⟨by omega,m+1,by omega,by omega,rfl,?_⟩;rw[if_pos (by omega),hrk,show ((k+1:Nat):Int)=(k:Int)+1 by omega,show ((k+1+(m+1):Nat):Int)=(d:Int)+1 by omega]
           ·have e:k+1+m≠d:=fun e=>h (hk2 e);by_cases q:d<k+1+m
            ·rw[if_pos q,if_pos (by omega)]
            ·rw[if_neg q,if_neg (by omega)]
          ·have hmi:¬((k+1+m:Nat):Int)<(ss.length:Int):=by omega
           dsimp only[x110_3,x110_3d,Z1,Z5,Z6,Z7,Z8,Z9,Za,Zb,Zc,Zf,Zg];simp only[↓hcsChR,entAs20,entLr20,entNd20,entWn20,hmi,w2,go_sem];simp only[hmi,w2,td,reduceCtorEq];rw[if_pos (by omega)];exact ⟨k+1,by omega,by omega,rfl,hry⟩
       ·obtain rfl:k=ss.length:=by omega
        dsimp only[x110_2,x110_2d,Z8,Za,Zb,Zg];simp only[↓hcsChR,entAs20,entLr20,entNd20,entWn20,hkl,go_sem];simp only[hkl,hz,td,reduceCtorEq];rfl
end T
end Go.Proofs.YtcnfmabhghhdnaaGreat
end
