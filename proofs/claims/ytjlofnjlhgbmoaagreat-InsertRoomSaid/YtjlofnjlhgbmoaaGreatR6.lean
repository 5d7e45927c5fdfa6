/- Parts of the proof (put together by a program): definitions, lemmas, and the law; no condition. -/
import Derived.Test.YtjlofnjlhgbmoaaGreatR1
import Derived.Test.YtjlofnjlhgbmoaaGreatR2
import Derived.Test.YtjlofnjlhgbmoaaGreatR3
import Derived.Test.YtjlofnjlhgbmoaaGreatR4
import Derived.Test.YtjlofnjlhgbmoaaGreatR5
set_option linter.unusedVariables false
set_option linter.unusedSimpArgs false
section
namespace Go.Proofs.YtjlofnjlhgbmoaaGreat
open Go.RowKit Go.Lib
namespace T
set_option maxRecDepth 100000
theorem wpList_copyI (w:World) {P:Program} {ops:Array Oper} {rest:List Oper} {o:Oper} {a:Act} {Q:Exit→Act→World→Prop} (hgd:o.guard=none) (d s:Operand) (t t':TypeId)
  (ho:o.op = .call { callee:=.builtin .copy,args:=#[d,s],argTypes:=#[t,t'] }) (v u:Value) (hd:a.eval d=v) (hs:a.eval s=u) {v':Value} {w':World}
  (hr:(Builtin.copy_ #[t,t'] o.type #[v,u]).run P w = .ok v' w') (h:wpList P ops Q rest (a.put o.dst v') w'):wpList P ops Q (o :: rest) a w :=
 wpList_plain hgd fun _ hK=>by
  unfold Oper.wp execOp
  simp only [ho,resolve,invoke,builtin,Sem.run_bind,Sem.run_pure,Result.andThen_ok,List.map_toArray,List.map_cons,List.map_nil,hd,hs,hr]
  exact hK _ _ h
theorem step_copyI {P:Program} {ops:Array Oper} {o:Oper} {a:Act} {w:World} {K:Act→World→Prop} {Q:Exit→Act→World→Prop} {E:Prop}
  (hg:o.guard=none) (d x:Operand) (dT sT:TypeId) (hop:o.op=Op.call { callee:=Callee.builtin Builtin.copy,args:=#[d,x],argTypes:=#[dT,sT] })
  (v u:Value) (hd:a.eval d=v) (hx:a.eval x=u) {v':Value} {w':World} (hr:(Builtin.copy_ #[dT,sT] o.type #[v,u]).run P w = .ok v' w') (hK:K (a.put o.dst v') w') :
  if Region.wanted o (yielded ops a.tmps)=true then Oper.wp P o a w K Q else E:=by
 have hw:Region.wanted o (yielded ops a.tmps)=true:=by simp [Region.wanted,hg]
 rw [if_pos hw]
 unfold Oper.wp
 simp [execOp,hop,resolve,invoke,builtin,hd,hx,hr,Result.andThen]
 exact hK
theorem insStop_end {w:World} {v:Value} {n:Nat} {cells vs:List Value} (hown:w.ownsRow 0 72 2 v n cells) {vb voff vc:Nat} (hvl:vs.length=2) (hvs:∀ j u,vs[j]? = some u→w.cell? ((⟨vb,voff,none⟩:Addr).add j)=some u) (h1:∀ u ∈ vs,u.oneCell' = true) (hb:(n+1) * 16≤140737488355328) :
  Calls Tryz.prog 37 #[v,.int .i64 n,.slice (some ⟨vb,voff,none⟩) 1 vc] w fun e w'=>∃ v',e = .returned v'∧w'.ownsRow 0 72 2 v' (n+1) (cells ++ vs)∧w.grownBy w' v.ownBlock∧Near w v v':=by
 obtain ⟨hu,i,hi,his⟩:=elemOk_spec (P:=Tryz.prog) (T:=30) (e:=72) (t:=(.st (.cons (.int .i64) .bool))) (by kernel_rfl)
 obtain ⟨i',z,hi',hz',hrd⟩:=zeroIs_spec (P:=Tryz.prog) (T:=72) (t:=(.st (.cons (.int .i64) .bool))) (by kernel_rfl)
 rw [hi] at hi';injection hi' with hi';subst hi'
 have hzs:z.cells.size=2:=by have:=(hrd w (fun _=>False)).len;simpa [Ty.size] using this
 have hby:(Tryz.prog.info? 72).map (·.bytes)=some 16:=by kernel_rfl
 rw [hi] at hby
 simp only [Option.map_some,Option.some.injEq] at hby
 obtain ⟨v',w',hr,k1,k2,k3⟩:=append_near (P:=Tryz.prog) (w:=w) 0 30 30 72 i z 2 16 hu hi hz' his hby hzs (by omega) v n cells hown ⟨vb,voff,none⟩ 1 vc vs (by rw [hvl]) hvs h1 (by simp only [maxLen];omega) hb (Nat.zero_le _)
 obtain ⟨A,c,rfl⟩:=ownsRow_slice hown
 rcases hown.2 with ⟨q,q'⟩ | ⟨g,cap,cur,q,_,hg,hnc,hcap,_⟩
 ·injection q with q1 q2 q3
  subst q1;subst q3;subst q'
  go_enter Tryz.func37,Tryz.ntmps37
  go_wp2_with (at_builtin;refine Lib.wpList_append_run _ rfl _ _ _ _ rfl _ _ rfl rfl _ _ hr ?_)
  go_ret
  exact ⟨_,rfl,k1,k2,k3⟩
 ·injection q with q1 q2 q3
  subst q1;subst q3
  simp only [maxLen] at hcap
  go_enter Tryz.func37,Tryz.ntmps37
  go_wp2_with (at_builtin;refine Lib.wpList_append_run _ rfl _ _ _ _ rfl _ _ rfl rfl _ _ hr ?_)
  all_goals (go_ret;exact ⟨_,rfl,k1,k2,k3⟩)
set_option maxHeartbeats 4000000 in
set_option maxRecDepth 100000 in
theorem insStop_shift {w:World} {g n cap i:Nat} {cur:Array Value} (hg:w.heap[g]? = some (.cells cur 72 (0,0))) (hcs:cur.size=cap * 2) (hroom:n+1≤cap) (hcap:cap≤9223372036854775807) (hi:i < n) (h1c:∀ u ∈ cur.toList.take (n * 2),u.oneCell' = true)
  {vs:List Value} {vb voff vc:Nat} (hvl:vs.length=2) (hvs:∀ j u,vs[j]? = some u→w.cell? ((⟨vb,voff,none⟩:Addr).add j)=some u) (h1:∀ u ∈ vs,u.oneCell' = true) {curv:Array Value} {ev:TypeId} (hgv:w.heap[vb]? = some (.cells curv ev (0,0))) (hne:vb≠g) :
  Calls Tryz.prog 37 #[.slice (some ⟨g,0,none⟩) n cap,.int .i64 i,.slice (some ⟨vb,voff,none⟩) 1 vc] w fun e w'=>e = .returned (.slice (some ⟨g,0,none⟩) (n+1) cap) ∧
   ∃ cur':Array Value,w'.heap[g]? = some (.cells cur' 72 (0,0))∧cur'.size=cap * 2∧cur'.toList.take ((n+1) * 2)=cur.toList.take ((i * 2)) ++ vs ++ (cur.toList.take (n * 2)).drop ((i * 2))∧w.grownBy w' (some g):=by
 obtain ⟨hu,inf,hin,his⟩:=elemOk_spec (P:=Tryz.prog) (T:=30) (e:=72) (t:=(.st (.cons (.int .i64) .bool))) (by kernel_rfl)
 have his:inf.size=2:=his
 have hszE:∀ w:World,(Go.sizeOf 72).run Tryz.prog w = .ok 2 w:=fun w=>by simp [sizeOf,typeInfo,hin,his]
 have hov:∀ o lb cb,(callFunc 81 #[.slice (some ⟨vb,voff,none⟩) 1 vc,.slice (some ⟨g,o,none⟩) lb cb]).run Tryz.prog w = .ok (.value (.bool false)) w:=fun o lb cb=>by
  rw [run_callFunc_extern Tryz.func81 (by kernel_rfl) (by kernel_rfl) (by kernel_rfl) (e:=Extern.SlicesOverlaps.overlaps #[30,30] #[4]) (by kernel_rfl),
   Lib.run_overlaps_apart w 30 4 72 hu 2 hszE ⟨vb,voff,none⟩ ⟨g,o,none⟩ 1 vc lb cb hne ev 72 curv.size cur.size (by simp [World.shape?,hgv]) (by simp [World.shape?,hg]) (by omega) (by simp [World.frozen?,hgv]) (by simp [World.frozen?,hgv])]
  rfl
 obtain ⟨C,hC⟩:∃ C,C=cur.toList.take (n * 2):=⟨_,rfl⟩
 have hCl:C.length=n * 2:=by rw [hC,List.length_take,Array.length_toList];omega
 rw [← hC] at h1c ⊢
 have hCat:∀ k v,C[k]? = some v→cur[k]? = some v:=fun k v h=>by
  rw [hC,List.getElem?_take] at h
  split at h
  ·simpa using h
  ·cases h
 obtain ⟨c1,hc1⟩:∃ c1:Array Value,c1=(cur.toList.take (((i+1) * 2)) ++ C.drop ((i * 2)) ++ cur.toList.drop (((i+1) * 2)+(C.drop ((i * 2))).length)).toArray:=⟨_,rfl⟩
 have hgD:w.drew.heap[g]? = some (.cells cur 72 (0,0)):=hg
 have hcp1:∀ ty dc sc,(Builtin.copy_ #[30,30] ty #[.slice (some ⟨g,((i+1) * 2),none⟩) (n - i) dc,.slice (some ⟨g,(i * 2),none⟩) (n+1 - i) sc]).run Tryz.prog w.drew = .ok (goInt (Nat.min (n+1 - i) (n - i):Nat)) (w.drew.setRow g c1):=fun ty dc sc=>by
  rw [hc1]
  exact run_copy_sized (P:=Tryz.prog) (w:=w.drew) (T':=30) (ty:=ty) (oc:=id) hu hin his (o:=((i+1) * 2)) (dLen:=n - i) (dCap:=dc) (sLen:=n+1 - i) (sCap:=sc) (a:=⟨g,(i * 2),none⟩) (cs:=C.drop ((i * 2))) hgD
   (by rw [List.length_drop,hCl,show Nat.min (n+1 - i) (n - i)=n - i from Nat.min_eq_right (by omega)];omega)
   (fun j v hj=>by
    rw [List.getElem?_drop] at hj
    have:=hCat _ _ hj
    rw [Addr.add_lit]
    simp [World.cell?,hgD,this])
   (by rw [List.length_drop,hCl,hcs];omega) (fun v hv=>h1c v (List.mem_of_mem_drop hv))
 have hc1s:c1.size=cap * 2:=by
  rw [hc1];simp only [List.size_toArray,List.length_append,List.length_take,List.length_drop,Array.length_toList,hCl,hcs];omega
 have hg1:(w.drew.setRow g c1).heap[g]? = some (.cells c1 72 (0,0)):=setRow_heap _ _ _ _ _ _ hgD
 obtain ⟨c2,hc2⟩:∃ c2:Array Value,c2=(c1.toList.take ((i * 2)) ++ vs ++ c1.toList.drop ((i * 2)+vs.length)).toArray:=⟨_,rfl⟩
 have hcp2:∀ ty dc,(Builtin.copy_ #[30,30] ty #[.slice (some ⟨g,(i * 2),none⟩) (n+1 - i) dc,.slice (some ⟨vb,voff,none⟩) 1 vc]).run Tryz.prog (w.drew.setRow g c1) = .ok (goInt (Nat.min 1 (n+1 - i):Nat)) ((w.drew.setRow g c1).setRow g c2):=fun ty dc=>by
  rw [hc2]
  exact run_copy_sized (P:=Tryz.prog) (w:=w.drew.setRow g c1) (T':=30) (ty:=ty) (oc:=id) hu hin his (o:=(i * 2)) (dLen:=n+1 - i) (dCap:=dc) (sLen:=1) (sCap:=vc) (a:=⟨vb,voff,none⟩) (cs:=vs) hg1
   (by rw [hvl,show Nat.min 1 (n+1 - i)=1 from Nat.min_eq_left (by omega)])
   (fun j v hj=>by
    have:=hvs j v hj
    rwa [World.cell?_of_block (w:=w) (a:=(⟨vb,voff,none⟩:Addr).add j) (by rw [Addr.add_lit,setRow_other _ _ _ _ hne];rfl)])
   (by rw [hvl,hc1s];omega) h1
 have a1:(cur.toList.take ((i+1) * 2)).length=((i+1) * 2):=by rw [List.length_take,Array.length_toList];omega
 have e1:c1.toList.take (i * 2)=cur.toList.take (i * 2):=by
  rw [hc1,List.append_assoc,List.take_append_of_le_length (by omega),List.take_take,Nat.min_eq_left (by omega)]
 have e2:c1.toList.drop ((i * 2)+vs.length)=C.drop (i * 2) ++ cur.toList.drop (((i+1) * 2)+(C.drop (i * 2)).length):=by
  rw [hc1,hvl,show (i * 2)+2=((i+1) * 2) by omega,List.append_assoc]
  exact List.drop_left' a1
 have hc2s:c2.size=cap * 2:=by
  rw [hc2];simp only [List.size_toArray,List.length_append,List.length_take,List.length_drop,Array.length_toList,hvl,hc1s];omega
 have hc2t:c2.toList.take ((n+1) * 2)=cur.toList.take (i * 2) ++ vs ++ C.drop (i * 2):=by
  rw [hc2,e1,e2,← List.append_assoc]
  refine List.take_left' ?_
  simp only [List.length_append,List.length_take,List.length_drop,Array.length_toList,hvl,hCl];omega
 have mixed:Tryz.prog.follows Departure.mixedOrders=true:=by kernel_rfl
 have hw1:IntKind.i64.wrap ((i:Int)+1)=(i:Int)+1:=by rw [IntKind.wrap_i64];omega
 have hb1:(0:Int)≤(i:Int)+1:=by omega
 have hin':i≤n:=by omega
 have htn:((i:Int)+1).toNat=i+1:=by omega
 have hb2:¬ (cap=i+1):=by omega
 have hb3:(i:Int)≤(n:Int)+1:=by omega
 have hb4:¬ (cap=i):=by omega
 clear hc1 hc2
 go_enter Tryz.func37,Tryz.ntmps37
 go_wp2_with (simp only [hov])
 go_region_law_o (refine step_copyI rfl _ _ 30 30 rfl _ _ (by simp [Act.eval,Act.put]) (by simp [Act.eval,Act.put]) (hcp1 _ _ _) ?_)
 go_wp2_with (at_builtin;refine wpList_copyI _ rfl _ _ 30 30 rfl _ _ rfl rfl (hcp2 _ _) ?_)
 go_ret
 refine ⟨rfl,c2,setRow_heap _ _ _ _ _ _ hg1,hc2s,hc2t,⟨rfl,rfl,rfl,by simp,fun k hk hn=>?_⟩⟩
 have hkg:k≠g:=fun e=>hn (by rw [e])
 rw [setRow_other _ _ _ _ hkg,setRow_other _ _ _ _ hkg];rfl
set_option maxHeartbeats 4000000 in
set_option maxRecDepth 100000 in
theorem insStop_grow {w:World} {g n cap i:Nat} {cur:Array Value} (hg:w.heap[g]? = some (.cells cur 72 (0,0))) (hcs:cur.size=cap * 2) (hnc:n≤cap) (hroom:cap < n+1) (hcap:cap≤9223372036854775807) (hi:i < n) (hbig:(n+1) * 16≤140737488355328) (h1c:∀ u ∈ cur.toList.take (n * 2),u.oneCell' = true)
  {vs:List Value} {vb voff vc:Nat} (hvl:vs.length=2) (hvs:∀ j u,vs[j]? = some u→w.cell? ((⟨vb,voff,none⟩:Addr).add j)=some u) (h1:∀ u ∈ vs,u.oneCell' = true) (hvw:vb < w.heap.size) :
  Calls Tryz.prog 37 #[.slice (some ⟨g,0,none⟩) n cap,.int .i64 i,.slice (some ⟨vb,voff,none⟩) 1 vc] w fun e w'=>∃ c',e = .returned (.slice (some ⟨w.heap.size,0,none⟩) (n+1) c') ∧
   ∃ cur':Array Value,w'.heap[w.heap.size]? = some (.cells cur' 72 (0,0))∧(n+1≤c'∧c' ≤ maxLen)∧cur'.size=c' * 2∧cur'.toList.take ((n+1) * 2)=cur.toList.take (i * 2) ++ vs ++ (cur.toList.take (n * 2)).drop (i * 2)∧w.grownBy w' none:=by
 obtain ⟨hu,inf,hin,his⟩:=elemOk_spec (P:=Tryz.prog) (T:=30) (e:=72) (t:=(.st (.cons (.int .i64) .bool))) (by kernel_rfl)
 have his:inf.size=2:=his
 obtain ⟨i',z,hi',hz',hrd⟩:=zeroIs_spec (P:=Tryz.prog) (T:=72) (t:=(.st (.cons (.int .i64) .bool))) (by kernel_rfl)
 rw [hin] at hi';injection hi' with hi';subst hi'
 have hzs:z.cells.size=2:=by have:=(hrd w (fun _=>False)).len;simpa [Ty.size] using this
 have hby:(Tryz.prog.info? 72).map (·.bytes)=some 16:=by kernel_rfl
 rw [hin] at hby
 simp only [Option.map_some,Option.some.injEq] at hby
 obtain ⟨C,hC⟩:∃ C,C=cur.toList.take (n * 2):=⟨_,rfl⟩
 have hCl:C.length=n * 2:=by rw [hC,List.length_take,Array.length_toList];omega
 rw [← hC] at h1c ⊢
 have hCat:∀ k v,C[k]? = some v→cur[k]? = some v:=fun k v h=>by
  rw [hC,List.getElem?_take] at h
  split at h
  ·simpa using h
  ·cases h
 have hgw:g < w.heap.size:=lt_of_block hg
 have hold:(Builtin.firstCells inf.size i (.slice (some ⟨g,0,none⟩) i cap)).run Tryz.prog w.drew = .ok (cur.toList.take (i * 2)).toArray w.drew:=by
  rw [his]
  exact run_firstCells_some w.drew 2 i ⟨g,0,none⟩ i cap (cur.toList.take (i * 2)) (by rw [List.length_take,Array.length_toList];omega) (fun j v hj=>by
   rw [Addr.add_lit]
   rw [List.getElem?_take] at hj
   split at hj
   ·have:w.drew.heap[g]? = some (.cells cur 72 (0,0)):=hg
    have hj:cur[j]? = some v:=by simpa using hj
    simp [World.cell?,this,hj]
   ·cases hj)
 have hrz:∀ ty,(Builtin.append_ #[30,3] ty #[.slice (some ⟨g,0,none⟩) i cap,.int .i64 ((n:Int)+1 - (i:Int))]).run Tryz.prog w = .ok (.slice (some ⟨w.heap.size,0,none⟩) (n+1) (grownCap w (n+1) cap 72)) (w.drew.alloc (.cells ((cur.toList.take (i * 2)).toArray ++ Builtin.zeroCells z.cells (n+1 - i) ++ Builtin.zeroCells z.cells (grownCap w (n+1) cap 72 - (n+1))) 72)):=fun ty=>by
  have h:=Lib.run_append_grow_zeros w 30 3 ty 72 inf z .i64 .i64 hu Tryz.underlying3 hin hz' (some ⟨g,0,none⟩) i cap (cur.toList.take (i * 2)) hold (n+1 - i) (by omega) (by omega) (by omega) (by omega) (by rw [hby];omega) (by rw [hby,show i+(n+1 - i)=n+1 by omega];exact growslice_fits hroom hbig)
  rw [show i+(n+1 - i)=n+1 by omega] at h
  rw [show (n:Int)+1 - (i:Int)=((n+1 - i:Nat):Int) by omega]
  exact h
 obtain ⟨G,hG⟩:∃ G,G=grownCap w (n+1) cap 72:=⟨_,rfl⟩
 obtain ⟨R0,hR0⟩:∃ R0:Array Value,R0=(cur.toList.take (i * 2)).toArray ++ Builtin.zeroCells z.cells (n+1 - i) ++ Builtin.zeroCells z.cells (G - (n+1)):=⟨_,rfl⟩
 rw [← hG] at hrz
 rw [← hR0] at hrz
 have hGn:n+1≤G:=by rw [hG];exact grownCap_ge w _ _ _
 have hGm:G≤maxLen:=by rw [hG];exact grownCap_le_maxLen w (n+1) cap 72 (by unfold maxLen;omega)
 have hG63:G≤9223372036854775807:=by unfold maxLen at hGm;omega
 have hz0:∀ k,(Builtin.zeroCells z.cells k).size=k * 2:=fun k=>by simp [Builtin.zeroCells,hzs]
 have hR0s:R0.size=G * 2:=by
  rw [hR0];simp only [Array.size_append,List.size_toArray,List.length_take,Array.length_toList,hz0];omega
 have hR0t:R0.toList.take (i * 2)=cur.toList.take (i * 2):=by
  rw [hR0,Array.append_assoc,Array.toList_append]
  exact List.take_left' (by rw [List.length_take,Array.length_toList];omega)
 obtain ⟨W1,hW1⟩:∃ W1,W1=w.drew.alloc (.cells R0 72):=⟨_,rfl⟩
 rw [← hW1] at hrz
 have hN1:W1.heap[w.heap.size]? = some (.cells R0 72 (0,0)):=by rw [hW1];exact (Array.getElem?_push_size ..)
 have hO1:∀ b,b < w.heap.size→W1.heap[b]? = w.heap[b]?:=fun b hb=>by rw [hW1];exact Below.heap_alloc w _ b hb
 obtain ⟨r1,hr1⟩:∃ r1:Array Value,r1=(R0.toList.take (i * 2) ++ vs ++ R0.toList.drop ((i * 2)+vs.length)).toArray:=⟨_,rfl⟩
 have hcpA:∀ (W:World),(∀ b:Nat,W.heap[b]? = W1.heap[b]?)→∀ ty dc,(Builtin.copy_ #[30,30] ty #[.slice (some ⟨w.heap.size,(i * 2),none⟩) (n+1 - i) dc,.slice (some ⟨vb,voff,none⟩) 1 vc]).run Tryz.prog W = .ok (goInt (Nat.min 1 (n+1 - i):Nat)) (W.setRow w.heap.size r1):=fun W hW ty dc=>by
  rw [hr1]
  exact run_copy_sized (P:=Tryz.prog) (w:=W) (T':=30) (ty:=ty) (oc:=id) hu hin his (o:=(i * 2)) (dLen:=n+1 - i) (dCap:=dc) (sLen:=1) (sCap:=vc) (a:=⟨vb,voff,none⟩) (cs:=vs) (by rw [hW];exact hN1)
   (by rw [hvl,show Nat.min 1 (n+1 - i)=1 from Nat.min_eq_left (by omega)])
   (fun j v hj=>by
    have:=hvs j v hj
    rwa [World.cell?_of_block (w:=w) (a:=(⟨vb,voff,none⟩:Addr).add j) (by rw [Addr.add_lit,hW];exact hO1 _ hvw)])
   (by rw [hvl,hR0s];omega) h1
 have hr1s:r1.size=G * 2:=by
  rw [hr1];simp only [List.size_toArray,List.length_append,List.length_take,List.length_drop,Array.length_toList,hvl,hR0s];omega
 have hr1t:r1.toList.take ((i+1) * 2)=cur.toList.take (i * 2) ++ vs:=by
  rw [hr1,hR0t]
  refine List.take_left' ?_
  simp only [List.length_append,List.length_take,Array.length_toList,hvl];omega
 obtain ⟨r2,hr2⟩:∃ r2:Array Value,r2=(r1.toList.take ((i+1) * 2) ++ C.drop (i * 2) ++ r1.toList.drop (((i+1) * 2)+(C.drop (i * 2)).length)).toArray:=⟨_,rfl⟩
 have hcpB:∀ (W:World),(∀ b:Nat,W.heap[b]? = (W1.setRow w.heap.size r1).heap[b]?)→∀ ty dc sc,(Builtin.copy_ #[30,30] ty #[.slice (some ⟨w.heap.size,((i+1) * 2),none⟩) (n - i) dc,.slice (some ⟨g,(i * 2),none⟩) (n - i) sc]).run Tryz.prog W = .ok (goInt (Nat.min (n - i) (n - i):Nat)) (W.setRow w.heap.size r2):=fun W hW ty dc sc=>by
  rw [hr2]
  exact run_copy_sized (P:=Tryz.prog) (w:=W) (T':=30) (ty:=ty) (oc:=id) hu hin his (o:=((i+1) * 2)) (dLen:=n - i) (dCap:=dc) (sLen:=n - i) (sCap:=sc) (a:=⟨g,(i * 2),none⟩) (cs:=C.drop (i * 2)) (by rw [hW];exact setRow_heap _ _ _ _ _ _ hN1)
   (by rw [List.length_drop,hCl,show Nat.min (n - i) (n - i)=n - i from Nat.min_self _];omega)
   (fun j v hj=>by
    rw [List.getElem?_drop] at hj
    have:=hCat _ _ hj
    rw [World.cell?_of_block (w:=w) (a:=(⟨g,(i * 2),none⟩:Addr).add j) (by rw [Addr.add_lit,hW,setRow_other _ _ _ _ (by dsimp only;omega)];exact hO1 _ hgw),Addr.add_lit]
    simp [World.cell?,hg,this])
   (by rw [List.length_drop,hCl,hr1s];omega) (fun v hv=>h1c v (List.mem_of_mem_drop hv))
 have hr2s:r2.size=G * 2:=by
  rw [hr2];simp only [List.size_toArray,List.length_append,List.length_take,List.length_drop,Array.length_toList,hCl,hr1s];omega
 have hr2t:r2.toList.take ((n+1) * 2)=cur.toList.take (i * 2) ++ vs ++ C.drop (i * 2):=by
  rw [hr2,hr1t]
  refine List.take_left' ?_
  simp only [List.length_append,List.length_take,List.length_drop,Array.length_toList,hvl,hCl];omega
 have hfin:∀ W:World,W.heap[w.heap.size]? = some (.cells r2 72 (0,0))→(∀ b,b < w.heap.size→W.heap[b]? = w.heap[b]?)→W.os=w.os→W.tape=w.tape→W.output=w.output→w.heap.size≤W.heap.size →
   ∃ c',Ending.returned (.slice (some ⟨w.heap.size,0,none⟩) (n+1) G) = .returned (.slice (some ⟨w.heap.size,0,none⟩) (n+1) c')∧∃ cur':Array Value,W.heap[w.heap.size]? = some (.cells cur' 72 (0,0))∧(n+1≤c'∧c' ≤ maxLen)∧cur'.size=c' * 2∧cur'.toList.take ((n+1) * 2)=cur.toList.take (i * 2) ++ vs ++ C.drop (i * 2)∧w.grownBy W none:=fun W q1 q2 q3 q4 q5 q6 =>
  ⟨G,rfl,r2,q1,⟨hGn,hGm⟩,hr2s,hr2t,⟨q3,q4,q5,q6,fun k hk _=>q2 k hk⟩⟩
 have hN2:(W1.setRow w.heap.size r1).heap[w.heap.size]? = some (.cells r1 72 (0,0)):=setRow_heap _ _ _ _ _ _ hN1
 have mixed:Tryz.prog.follows Departure.mixedOrders=true:=by kernel_rfl
 have hw1:IntKind.i64.wrap ((i:Int)+1)=(i:Int)+1:=by rw [IntKind.wrap_i64];omega
 have hb1:(0:Int)≤(i:Int)+1:=by omega
 have hin':i≤n:=by omega
 have htn:((i:Int)+1).toNat=i+1:=by omega
 have hb3:(i:Int)≤(n:Int):=by omega
 have hb5:(i:Int)≤(n:Int)+1:=by omega
 have hz3:(cap:Int) < (n:Int)+1:=by omega
 have hGi:¬ (G=i):=by omega
 have hGim:¬ (G=i+1):=by omega
 have hci:¬ (cap=i):=by omega
 subst hW1
 have hE:∀ b:Nat,((w.alloc (.cells R0 72)).drew).heap[b]? = (w.drew.alloc (.cells R0 72)).heap[b]?:=fun _=>rfl
 have hF:∀ b:Nat,(((w.alloc (.cells R0 72)).drew.setRow w.heap.size r1).drew).heap[b]? = ((w.drew.alloc (.cells R0 72)).setRow w.heap.size r1).heap[b]?:=fun _=>rfl
 clear hr1 hr2 hR0 hG hold
 go_enter Tryz.func37,Tryz.ntmps37
 go_wp2_with (first
  | (at_builtin;refine Lib.wpList_append_run _ rfl _ _ _ _ rfl _ _ rfl rfl _ _ (hrz _) ?_)
  | (at_builtin;refine wpList_copyI _ rfl _ _ 30 30 rfl _ _ rfl rfl (hcpA _ hE _ _) ?_))
 go_region_law_o (refine step_copyI rfl _ _ 30 30 rfl (.slice (some ⟨w.heap.size,((i+1) * 2),none⟩) (n - i) (G - (i+1))) (.slice (some ⟨g,(i * 2),none⟩) (n - i) (cap - i)) (by simp [Act.eval,Act.put]) (by simp [Act.eval,Act.put]) (hcpB _ hF 3 (G - (i+1)) (cap - i)) ?_)
 go_wp2
 go_ret
 refine hfin _ ?_ ?_ rfl rfl rfl ?_
 ·exact setRow_heap _ _ _ _ _ _ hN2
 ·intro b hb
  rw [setRow_other _ _ _ _ (by omega)]
  refine Eq.trans ?_ (hO1 b hb)
  exact setRow_other _ _ _ _ (by omega)
 ·simp
def insF {α:Type} (x:List α) (i:Nat) (v:List α):List α:=x.take i ++ v ++ x.drop i
def entInsStop:Ent:=⟨37,.cons (.sl (.st (.cons (.int .i64) .bool))) (.cons (.int .i64) (.cons (.sl (.st (.cons (.int .i64) .bool))) .nil)),.sl (.st (.cons (.int .i64) .bool)),true,some 72,fun x=>(0≤(x.2.1:Int)∧(x.2.1:Int)≤List.length (α:=(Int × Bool)) x.1)∧List.length (α:=(Int × Bool)) x.2.2.1=1∧List.length (α:=(Int × Bool)) x.1≤1000000,fun x=>insF (α:=(Int × Bool)) x.1 (x.2.1:Int).toNat x.2.2.1⟩
theorem conInsStop:Con Tryz.prog entInsStop:=by
 unfold Con
 rw [if_pos (by rfl)]
 refine ⟨by kernel_rfl,?_⟩
 rintro (x:List (Int × Bool)) ⟨(n:Int),(v:List (Int × Bool)),_⟩ ⟨⟨h0,h1⟩,hv1,hsm⟩ w M u us cells hM hMu hown hrow hargs hplain
 have h0:0≤n:=h0
 have h1:n≤x.length:=h1
 obtain ⟨i,rfl⟩:∃ i:Nat,n=i:=⟨n.toNat,by omega⟩
 obtain ⟨u1,us1,rfl,hu1,u2,us2,rfl,hu2,rfl⟩:=hargs
 obtain ⟨rfl,_⟩:=avr_int (P:=Tryz.prog) (hp:=fun _=>none) (ψ:=fun _=>undef) hu1
 have hv1:v.length=1:=hv1
 have hsm:x.length≤1000000:=hsm
 have hu2':RdV Tryz.prog (.sl (.st (.cons (.int .i64) .bool))) w M v u2:=hu2
 obtain ⟨A2,k2,c2,e2,hlen2,hkc2,hcm2,hd2⟩:=(RdV.one (t:=.sl (.st (.cons (.int .i64) .bool))) hu2' rfl rfl).1
 simp only [List.cons.injEq,and_true] at e2
 subst e2
 have hk2:k2=1:=by rw [← hlen2];exact hv1
 subst hk2
 rcases hd2 with hd2 | ⟨vb,voff,vs,rfl,hvw,hvM,hvc,hvr⟩
 ·cases hd2
 have hvl:vs.length=2:=by
  have:=RowsBy.len (n:=2) (fun (d:(Int × Bool)) c (q:Rd Tryz.prog (.st (.cons (.int .i64) .bool)) w M d c)=>q.len) hvr
  rw [hv1] at this;omega
 have hvs:∀ j u,vs[j]? = some u→w.cell? ((⟨vb,voff,none⟩:Addr).add j)=some u:=fun j u h=>by rw [Addr.add_lit];exact hvc j u h
 have hone:∀ {zs:List (Int × Bool)} {cs:List Value},RowsBy (fun x c=>Rd Tryz.prog (.st (.cons (.int .i64) .bool)) w M x c) zs cs→∀ u ∈ cs,u.oneCell' = true:=by
  intro zs
  induction zs with
  | nil=>intro cs h u hu;obtain rfl:cs=[]:=h;simp at hu
  | cons z r ih =>
   rintro cs ⟨c1,c2,rfl,q1,q2⟩ u hu
   rcases List.mem_append.1 hu with hu | hu
   ·exact Rd.one q1 u hu
   ·exact ih q2 u hu
 have h1v:=hone hvr
 have h1c:=hone hrow
 have hcl:cells.length=x.length * 2:=hown.1
 obtain ⟨r1,r2,er,hr1,hr2⟩:=RowsBy.split (xs:=x.take i) (ys:=x.drop i) (by rw [List.take_append_drop];exact hrow)
 have hr1l:r1.length=(i * 2):=by
  have:=RowsBy.len (n:=2) (fun (d:(Int × Bool)) c (q:Rd Tryz.prog (.st (.cons (.int .i64) .bool)) w M d c)=>q.len) hr1
  rw [List.length_take] at this;omega
 have hrows:RowsBy (fun x c=>Rd Tryz.prog (.st (.cons (.int .i64) .bool)) w M x c) (insF x i v) (cells.take (i * 2) ++ vs ++ cells.drop (i * 2)):=by
  unfold insF
  have t1:cells.take (i * 2)=r1:=by rw [er];exact List.take_left' hr1l
  have t2:cells.drop (i * 2)=r2:=by rw [er];exact List.drop_left' hr1l
  rw [t1,t2]
  exact (hr1.append hvr).append hr2
 have hFl:(insF x i v).length=x.length+1:=by unfold insF;simp only [List.length_append,List.length_take,List.length_drop,hv1];omega
 obtain ⟨hne,curv,ev,hgv⟩:=hplain (.slice (some ⟨vb,voff,none⟩) 1 c2) (by simp) vb rfl
 show Calls Tryz.prog 37 #[u,.int .i64 i,.slice (some ⟨vb,voff,none⟩) 1 c2] w fun en w'=>∃ v' cells',en = .returned v'∧w'.ownsRow 0 72 2 v' (insF x (Int.toNat i) v).length cells'∧RowsBy (fun x c=>Rd Tryz.prog (.st (.cons (.int .i64) .bool)) w M x c) (insF x (Int.toNat i) v) cells'∧w.grownBy w' u.ownBlock∧(blk v' = blk u∨∃ g,blk v' = some g∧w.heap.size≤g)
 rw [Int.toNat_natCast,hFl]
 have hown':w.ownsRow 0 72 2 u x.length cells:=hown
 by_cases hi:i=x.length
 ·subst hi
  refine Calls.mono (insStop_end (v:=u) hown' (vb:=vb) (voff:=voff) (vc:=c2) hvl hvs h1v (by omega)) ?_
  rintro en w' ⟨v',rfl,k1,k2,k3⟩
  obtain ⟨A,cX,eX⟩:=ownsRow_slice hown'
  obtain ⟨A',cX',eX'⟩:=ownsRow_slice k1
  refine ⟨v',_,rfl,k1,?_,k2,?_⟩
  ·have t1:∀ k,k=x.length * 2→cells.take k ++ vs ++ cells.drop k=cells ++ vs:=fun k e=>by
    rw [List.take_of_length_le (by omega),List.drop_of_length_le (by omega),List.append_nil]
   rw [t1 _ (by omega)] at hrows
   exact hrows
  ·rw [blk_own eX',blk_own eX];exact k3
 ·have hin:i < x.length:=by omega
  rcases hown'.2 with ⟨_,q⟩ | ⟨g,cap,cur,rfl,_,hg,hnc,hcap,hcs,htk⟩
  ·omega
  have hcap':cap≤9223372036854775807:=hcap
  have htk2:cur.toList.take (i * 2)=cells.take (i * 2):=by rw [← htk,List.take_take,Nat.min_eq_left (by omega)]
  have hbne:vb≠g:=fun e=>hne (by rw [e];rfl)
  by_cases hroom:x.length+1≤cap
  ·refine Calls.mono (insStop_shift hg hcs hroom hcap' hin (by rw [htk];exact h1c) hvl hvs h1v (vc:=c2) hgv hbne) ?_
   rintro en w' ⟨rfl,cur',k1,k2,k3,k4⟩
   rw [htk,htk2] at k3
   exact ⟨_,_,rfl,⟨by simp only [List.length_append,List.length_take,List.length_drop,hvl,hcl];omega,.inr ⟨g,cap,cur',rfl,Nat.zero_le _,k1,hroom,hcap,k2,k3⟩⟩,hrows,k4,.inl rfl⟩
  ·refine Calls.mono (insStop_grow hg hcs hnc (by omega) hcap' hin (by omega) (by rw [htk];exact h1c) hvl hvs h1v (vc:=c2) hvw) ?_
   rintro en w' ⟨c',rfl,cur',k1,⟨k5,k6⟩,k2,k3,k4⟩
   rw [htk,htk2] at k3
   exact ⟨_,_,rfl,⟨by simp only [List.length_append,List.length_take,List.length_drop,hvl,hcl];omega,.inr ⟨w.heap.size,c',cur',rfl,Nat.zero_le _,k1,k5,k6,k2,k3⟩⟩,hrows,⟨k4.os,k4.tape,k4.output,k4.size,fun k hk _=>k4.block k hk (by simp)⟩,.inr ⟨_,rfl,Nat.le_refl _⟩⟩
end T
end Go.Proofs.YtjlofnjlhgbmoaaGreat
end
section
namespace Go.Proofs.YtjlofnjlhgbmoaaGreat
namespace T
def x4_1:XC:=(.seq (Zg [Za 84 18,Za 85 14,Zb 86 (.bin .leq) [Zc 84,Zc 85]] (.cond (Zc 86) .skip (.exit 2))) (.seq (.block 3 (Zg [Za 89 12,Za 90 16,Zb 91 (.iaddr Z9) [Zc 89,Zc 90],Zd 92 Z9 91,Zb 19 (.alloc 57 Z9) [],⟨none,.store Z9,[Zc 19,Zc 92],none,[]⟩] (.seq (.reg true [Zd 94 Z23 8,Zb 95 (.faddr 0 Z1) [Zc 4],Zf 96 (.load Z1) [Zc 95] [1],Zb 97 (.faddr 1 Z19) [Zc 4],Zf 98 (.load Z19) [Zc 97] [3],Za 99 2,Za 100 17,Za 101 18,Zf 102 (.call 18) [Zc 98,Zc 99,Zc 100,Zc 101] [4,3,5,6,7],Zf 103 (.call 23) [Zc 94,Zc 96,Zc 102] [0,2,1,8,4,3,5,6,7],Zf 93 .mv [Zc 103] [9,0,2,1,8,4,3,5,6,7],Zf 104 (.extract 0) [Zc 93] [10,9,0,2,1,8,4,3,5,6,7],Zf 105 (.extract 1) [Zc 93] [10,9,0,2,1,8,4,3,5,6,7],Zb 20 (.alloc 34 Z20) [],⟨none,.store Z20,[Zc 20,Zc 104],none,[13,11,10,9,0,2,1,8,4,3,5,6,7]⟩,Zf 21 .mv [Zc 105] [12,10,9,0,2,1,8,4,3,5,6,7,14,13,11]]) (.clean (.seq (Zg [Zb 106 (.faddr 0 Z1) [Zc 19],Zd 107 Z1 106,Za 108 17,Zb 109 (.bin .neq) [Zc 107,Zc 108],Za 110 109,Ze 111 (.faddr 1 Z1) [Zc 19] 4 110 false,Ze 112 (.load Z1) [Zc 111] 4 110 false,Ze 113 .mv [Zc 18] 4 110 false,Ze 114 (.bin .neq) [Zc 112,Zc 113] 4 110 false,Zb 115 .pick [Zc 110,.bool true,Zc 114],Za 116 115,Ze 117 (.faddr 2 Z1) [Zc 19] 10 116 false,Ze 118 (.load Z1) [Zc 117] 10 116 false,Ze 119 .mv [Zc 21] 10 116 false,Ze 120 (.bin .neq) [Zc 118,Zc 119] 10 116 false,Zb 121 .pick [Zc 116,.bool true,Zc 120],Za 122 121,Ze 123 .mv [Zc 21] 16 122 false,Ze 124 (.bin .neq) [Zc 123,.int .i64 0] 16 122 false,Ze 125 .mv [Zc 124] 16 122 false,Ze 126 (.faddr 3 Z1) [Zc 19] 19 125 true,Ze 127 (.load Z1) [Zc 126] 19 125 true,Ze 128 (.bin .neq) [Zc 127,.int .i64 0] 19 125 true,Ze 129 .pick [Zc 125,Zc 128,.bool false] 16 122 false,Zb 130 .pick [Zc 122,.bool true,Zc 129]] (.cond (Zc 130) (Zg [Zb 6 .mv [.bool false]] .ret) .skip)) (.clean (.seq (Zg [Za 131 21,Zb 132 (.bin .eql) [Zc 131,.int .i64 0]] (.cond (Zc 132) (Zg [Zd 134 Z23 8,Zd 135 Z20 20,Zb 136 (.call 24) [Zc 134,Zc 135],Za 133 136,Zb 137 (.extract 0) [Zc 133],Zb 138 (.extract 1) [Zc 133],Za 22 137,Za 23 138] (.clean (.seq (Zg [Za 139 23,Zb 140 (.bin .neq) [Zc 139,.int .i64 0],Za 141 140,Ze 142 (.faddr 3 Z1) [Zc 19] 2 141 false,Ze 143 (.load Z1) [Zc 142] 2 141 false,Ze 144 .mv [Zc 22] 2 141 false,Ze 145 (.bin .neq) [Zc 143,Zc 144] 2 141 false,Zb 146 .pick [Zc 141,.bool true,Zc 145]] (.cond (Zc 146) (Zg [Zb 6 .mv [.bool false]] .ret) .skip)) (.clean (Zg [Za 147 15,Zb 148 (.bin .lss) [Zc 147,.int .i64 0],Za 149 148,Ze 150 .mv [Zc 22] 2 149 false,Ze 151 .mv [Zc 12] 2 149 false,Ze 152 .mv [Zc 15] 2 149 false,Ze 153 (.iaddr Z9) [Zc 151,Zc 152] 2 149 false,Ze 154 (.faddr 3 Z1) [Zc 153] 2 149 false,Ze 155 (.load Z1) [Zc 154] 2 149 false,Ze 156 (.bin .lss) [Zc 150,Zc 155] 2 149 false,Zb 157 .pick [Zc 149,.bool true,Zc 156]] (.cond (Zc 157) (.reg false [Za 158 16,Za 15 158]) .skip)))))) .skip)) (.clean (.reg false [Za 159 16,Zb 160 (.bin .add) [Zc 159,.int .i64 1],Za 16 160]))))))))) (.clean (.reg false [Za 87 18,Zb 88 (.bin .add) [Zc 87,.int .i64 1],Za 18 88]))))
def x4_0:XC:=(.seq (.seq (.reg false [Za 78 17,Za 79 14,⟨some 80,.bin .leq,[.t 78,.t 79],none,[]⟩]) (.cond (.t 80) .skip (.exit 0))) (.seq (.block 1 (.seq (.reg false [Za 83 17,Za 18 83]) (.block 2 (.loop x4_1)))) (.clean (.reg false [Za 81 17,⟨some 82,.bin .add,[.t 81,.int .i64 1],none,[]⟩,Za 17 82]))))
def x4:XF:=⟨219,[.tmp 6],[0,1,2,3,4,6,7,8,9,10,11,12,13,14,15,16,17,18,19,20,21,22,23],(Zg [Zb 3 (.box 29) [Zc 0],Zb 4 (.box 34) [Zc 1],Zb 6 .mv [.bool false]] (Zg [Zb 24 (.call 8) [],Za 7 24] (.seq (Zg [Zd 25 Z23 3,Zd 26 Z20 4,Zb 27 (.call 9) [Zc 25,Zc 26],Zb 28 .not [Zc 27]] (.cond (Zc 28) (Zg [Za 29 7,Za 6 29] .ret) .skip)) (.clean (Zg [Zd 30 Z23 3,Zb 31 (.call 12) [Zc 30],Zb 8 (.alloc 43 Z23) [],⟨none,.store Z23,[Zc 8,Zc 31],none,[]⟩] (Zg [Zd 33 Z23 8,Zd 34 Z20 4,Za 35 2,Zb 36 (.call 11) [Zc 33,Zc 34,Zc 35],Za 32 36,Zb 37 (.extract 0) [Zc 32],Zb 38 (.extract 1) [Zc 32],Zb 39 (.extract 2) [Zc 32],Zb 40 (.extract 3) [Zc 32],Zb 41 (.extract 4) [Zc 32],Zb 9 (.alloc 34 Z20) [],⟨none,.store Z20,[Zc 9,Zc 37],none,[]⟩,Za 10 38,Za 11 39,Za 12 40,Za 13 41] (.clean (.seq (Zg [Za 42 13,Zb 43 (.bin .neq) [Zc 42,.int .i64 0],Za 44 43,Ze 45 .mv [Zc 13] 2 44 true,Ze 46 (.bin .neq) [Zc 45,.int .i64 4] 2 44 true,Zb 47 .pick [Zc 44,Zc 46,.bool false]] (.cond (Zc 47) (Zg [Za 48 7,Za 49 48,Ze 50 .mv [Zc 12] 1 49 true,Ze 51 (.len false) [Zc 50] 1 49 true,Ze 52 (.bin .eql) [Zc 51,.int .i64 0] 1 49 true,Zb 53 .pick [Zc 49,Zc 52,.bool false],Za 54 53,Ze 55 (.faddr 1 Z19) [Zc 9] 6 54 true,Ze 56 (.load Z19) [Zc 55] 6 54 true,Ze 57 (.len false) [Zc 56] 6 54 true,Ze 58 (.bin .eql) [Zc 57,.int .i64 0] 6 54 true,Zb 59 .pick [Zc 54,Zc 58,.bool false],Za 6 59] .ret) .skip)) (.clean (Zg [Zb 60 (.faddr 1 Z19) [Zc 4],Zd 61 Z19 60,Zb 62 (.len false) [Zc 61],Za 14 62] (.seq (Zg [Za 63 12,Zb 64 (.len false) [Zc 63],Za 65 14,Zb 66 (.bin .add) [Zc 65,.int .i64 1],Za 67 14,Zb 68 (.bin .add) [Zc 67,.int .i64 2],Zb 69 (.bin .mul) [Zc 66,Zc 68],Zb 70 (.bin .quo) [Zc 69,.int .i64 2],Zb 71 (.bin .neq) [Zc 64,Zc 70],Za 72 71,Ze 73 (.load Z23) [Zc 8] 9 72 false,Ze 74 (.load Z20) [Zc 4] 9 72 false,Ze 75 (.call 22) [Zc 73,Zc 74] 9 72 false,Ze 76 (.bin .neq) [Zc 75,.int .i64 0] 9 72 false,Zb 77 .pick [Zc 72,.bool true,Zc 76]] (.cond (Zc 77) (Zg [Zb 6 .mv [.bool false]] .ret) .skip)) (.clean (Zg [Zb 15 .mv [.int .i64 (-1)]] (Zg [Zb 16 .mv [.int .i64 0]] (.seq (Zg [Zb 17 .mv [.int .i64 0]] (.block 0 (.loop x4_0))) (.clean (.seq (Zg [Za 161 13,Zb 162 (.bin .eql) [Zc 161,.int .i64 4]] (.cond (Zc 162) (Zg [Za 163 7,Za 164 163,Ze 165 .mv [Zc 15] 1 164 true,Ze 166 (.bin .lss) [Zc 165,.int .i64 0] 1 164 true,Zb 167 .pick [Zc 164,Zc 166,.bool false],Za 168 167,Ze 169 (.faddr 1 Z19) [Zc 9] 5 168 true,Ze 170 (.load Z19) [Zc 169] 5 168 true,Ze 171 (.len false) [Zc 170] 5 168 true,Ze 172 (.bin .eql) [Zc 171,.int .i64 0] 5 168 true,Zb 173 .pick [Zc 168,Zc 172,.bool false],Za 6 173] .ret) .skip)) (.clean (.seq (Zg [Za 174 15,Zb 175 (.bin .lss) [Zc 174,.int .i64 0],Za 176 175,Ze 177 (.load Z23) [Zc 8] 2 176 false,Ze 178 (.load Z20) [Zc 9] 2 176 false,Ze 179 (.call 22) [Zc 177,Zc 178] 2 176 false,Ze 180 (.bin .neq) [Zc 179,.int .i64 0] 2 176 false,Zb 181 .pick [Zc 176,.bool true,Zc 180],Za 182 181,Ze 183 (.faddr 0 Z1) [Zc 9] 8 182 false,Ze 184 (.load Z1) [Zc 183] 8 182 false,Ze 185 (.faddr 0 Z1) [Zc 4] 8 182 false,Ze 186 (.load Z1) [Zc 185] 8 182 false,Ze 187 (.bin .neq) [Zc 184,Zc 186] 8 182 false,Zb 188 .pick [Zc 182,.bool true,Zc 187]] (.cond (Zc 188) (Zg [Zb 6 .mv [.bool false]] .ret) .skip)) (.clean (.seq (.reg true [Za 189 7,Zf 190 .mv [Zc 189] [0],Zh 191 .mv [Zc 12] 1 190 true [1,0],Zh 192 .mv [Zc 15] 1 190 true [1,0],Zh 193 (.iaddr Z9) [Zc 191,Zc 192] 1 190 true [2,1,0,3],Zh 194 (.faddr 0 Z1) [Zc 193] 1 190 true [4,2,1,0,3],Zh 195 (.load Z1) [Zc 194] 1 190 true [5,4,2,1,0,3],Zh 196 .mv [Zc 10] 1 190 true [1,0],Zh 197 (.bin .eql) [Zc 195,Zc 196] 1 190 true [6,5,4,2,1,0,3,7],Zf 198 .pick [Zc 190,Zc 197,.bool false] [1,0,8,6,5,4,2,3,7],Zf 199 .mv [Zc 198] [9,1,0,8,6,5,4,2,3,7],Zh 200 .mv [Zc 12] 10 199 true [10,9,1,0,8,6,5,4,2,3,7],Zh 201 .mv [Zc 15] 10 199 true [10,9,1,0,8,6,5,4,2,3,7],Zh 202 (.iaddr Z9) [Zc 200,Zc 201] 10 199 true [11,10,9,1,0,8,6,5,4,2,3,7,12],Zh 203 (.faddr 1 Z1) [Zc 202] 10 199 true [13,11,10,9,1,0,8,6,5,4,2,3,7,12],Zh 204 (.load Z1) [Zc 203] 10 199 true [14,13,11,10,9,1,0,8,6,5,4,2,3,7,12],Zh 205 .mv [Zc 11] 10 199 true [10,9,1,0,8,6,5,4,2,3,7],Zh 206 (.bin .eql) [Zc 204,Zc 205] 10 199 true [15,14,13,11,10,9,1,0,8,6,5,4,2,3,7,12,16],Zf 207 .pick [Zc 199,Zc 206,.bool false] [10,9,1,0,8,6,5,4,2,3,7,17,15,14,13,11,12,16],Zf 208 .mv [Zc 207] [18,10,9,1,0,8,6,5,4,2,3,7,17,15,14,13,11,12,16],Zh 209 (.faddr 1 Z19) [Zc 9] 19 208 true [19,18,10,9,1,0,8,6,5,4,2,3,7,17,15,14,13,11,12,16],Zh 210 (.load Z19) [Zc 209] 19 208 true [20,19,18,10,9,1,0,8,6,5,4,2,3,7,17,15,14,13,11,12,16],Zh 211 (.faddr 1 Z19) [Zc 4] 19 208 true [19,18,10,9,1,0,8,6,5,4,2,3,7,17,15,14,13,11,12,16],Zh 212 (.load Z19) [Zc 211] 19 208 true [22,19,18,10,9,1,0,8,6,5,4,2,3,7,17,15,14,13,11,12,16],Zh 213 .mv [Zc 2] 19 208 true [19,18,10,9,1,0,8,6,5,4,2,3,7,17,15,14,13,11,12,16],Zh 214 .mv [Zc 10] 19 208 true [19,18,10,9,1,0,8,6,5,4,2,3,7,17,15,14,13,11,12,16],Zh 215 .mv [Zc 11] 19 208 true [19,18,10,9,1,0,8,6,5,4,2,3,7,17,15,14,13,11,12,16],Zh 216 (.call 18) [Zc 212,Zc 213,Zc 214,Zc 215] 19 208 true [23,22,19,18,10,9,1,0,8,6,5,4,2,3,7,17,15,14,13,11,12,16,24,25,26],Zh 217 (.call 17) [Zc 210,Zc 216] 19 208 true [21,20,19,18,10,9,1,0,8,6,5,4,2,3,7,17,15,14,13,11,12,16,27,23,22,24,25,26],Zf 218 .pick [Zc 208,Zc 217,.bool false] [19,18,10,9,1,0,8,6,5,4,2,3,7,17,15,14,13,11,12,16,28,21,20,27,23,22,24,25,26],Zf 6 .mv [Zc 218] [29,19,18,10,9,1,0,8,6,5,4,2,3,7,17,15,14,13,11,12,16,28,21,20,27,23,22,24,25,26]]) .ret)))))))))))))))))))))⟩
def x5_0:XC:=(.seq (Zg [Za 113 18,Zb 114 (.faddr 1 Z19) [Zc 4],Zb 115 (.load Z19) [Zc 114],Zb 116 (.len false) [Zc 115],Zb 117 (.bin .lss) [Zc 113,Zc 116]] (.cond (Zc 117) .skip (.exit 0))) (.clean (.seq (.block 1 (Zg [Za 120 18,Za 19 120] (.seq (Zg [Za 121 18,Za 122 10,Zb 123 (.bin .geq) [Zc 121,Zc 122]] (.cond (Zc 123) (.reg false [Za 124 19,Zb 125 (.bin .add) [Zc 124,.int .i64 1],Za 19 125]) .skip)) (.clean (.seq (Zg [Za 126 18,Za 127 11,Zb 128 (.bin .geq) [Zc 126,Zc 127]] (.cond (Zc 128) (.reg false [Za 129 19,Zb 130 (.bin .add) [Zc 129,.int .i64 1],Za 19 130]) .skip)) (.clean (.seq (.reg true [Zb 131 (.faddr 1 Z19) [Zc 9],Zf 132 (.load Z19) [Zc 131] [0],Za 133 19,Zf 134 (.iaddr Z8) [Zc 132,Zc 133] [1,0,2],Zf 135 (.load Z8) [Zc 134] [3,1,0,2],Zb 136 (.faddr 1 Z19) [Zc 4],Zf 137 (.load Z19) [Zc 136] [5],Za 138 18,Zf 139 (.iaddr Z8) [Zc 137,Zc 138] [6,5,7],Zf 140 (.load Z8) [Zc 139] [8,6,5,7],Zf 141 (.steq true Z8) [Zc 135,Zc 140] [4,3,1,0,2,9,8,6,5,7],Zf 142 .mv [Zc 141] [10,4,3,1,0,2,9,8,6,5,7],Zh 143 (.faddr 0 Z3) [Zc 16] 11 142 false [11,10,4,3,1,0,2,9,8,6,5,7],Zh 144 (.load Z3) [Zc 143] 11 142 false [12,11,10,4,3,1,0,2,9,8,6,5,7],Zh 145 .mv [Zc 19] 11 142 false [11,10,4,3,1,0,2,9,8,6,5,7],Zh 146 (.bin .add) [Zc 145,.int .i64 1] 11 142 false [14,11,10,4,3,1,0,2,9,8,6,5,7],Zh 147 (.iaddr Z2) [Zc 144,Zc 146] 11 142 false [13,12,11,10,4,3,1,0,2,9,8,6,5,7,15,14],Zh 148 (.load Z2) [Zc 147] 11 142 false [16,13,12,11,10,4,3,1,0,2,9,8,6,5,7,15,14],Zh 149 (.faddr 0 Z3) [Zc 14] 11 142 false [11,10,4,3,1,0,2,9,8,6,5,7],Zh 150 (.load Z3) [Zc 149] 11 142 false [18,11,10,4,3,1,0,2,9,8,6,5,7],Zh 151 .mv [Zc 18] 11 142 false [11,10,4,3,1,0,2,9,8,6,5,7],Zh 152 (.bin .add) [Zc 151,.int .i64 1] 11 142 false [20,11,10,4,3,1,0,2,9,8,6,5,7],Zh 153 (.iaddr Z2) [Zc 150,Zc 152] 11 142 false [19,18,11,10,4,3,1,0,2,9,8,6,5,7,21,20],Zh 154 (.load Z2) [Zc 153] 11 142 false [22,19,18,11,10,4,3,1,0,2,9,8,6,5,7,21,20],Zh 155 (.steq true Z2) [Zc 148,Zc 154] 11 142 false [17,16,13,12,11,10,4,3,1,0,2,9,8,6,5,7,15,14,23,22,19,18,21,20],Zf 156 .pick [Zc 142,.bool true,Zc 155] [11,10,4,3,1,0,2,9,8,6,5,7,24,17,16,13,12,15,14,23,22,19,18,21,20]]) (.cond (Zc 156) (Zg [Zb 6 .mv [.bool false]] .ret) .skip)))))))) (.clean (.reg false [Za 118 18,Zb 119 (.bin .add) [Zc 118,.int .i64 1],Za 18 119])))))
def x5:XF:=⟨168,[.tmp 6],[0,1,2,3,4,6,7,8,9,10,11,13,14,15,16,17,18,19],(Zg [Zb 3 (.box 29) [Zc 0],Zb 4 (.box 34) [Zc 1],Zb 6 .mv [.bool false]] (Zg [Zb 20 (.call 8) [],Za 7 20] (.seq (Zg [Zd 21 Z23 3,Zd 22 Z20 4,Zb 23 (.call 9) [Zc 21,Zc 22],Zb 24 .not [Zc 23]] (.cond (Zc 24) (Zg [Za 25 7,Za 6 25] .ret) .skip)) (.clean (Zg [Zd 26 Z23 3,Zb 27 (.call 12) [Zc 26],Zb 8 (.alloc 43 Z23) [],Zi Z23 8 27] (Zg [Zd 29 Z23 8,Zd 30 Z20 4,Za 31 2,Zb 32 (.call 11) [Zc 29,Zc 30,Zc 31],Za 28 32,Zb 33 (.extract 0) [Zc 28],Zb 34 (.extract 1) [Zc 28],Zb 35 (.extract 2) [Zc 28],Zb 36 (.extract 3) [Zc 28],Zb 37 (.extract 4) [Zc 28],Zb 9 (.alloc 34 Z20) [],Zi Z20 9 33,Za 10 34,Za 11 35,Za 12 36,Za 13 37] (.clean (.seq (Zg [Za 38 13,Zb 39 (.bin .neq) [Zc 38,.int .i64 0]] (.cond (Zc 39) (Zg [Za 40 7,Za 6 40] .ret) .skip)) (Zg [Zd 42 Z23 8,Zb 43 (.faddr 0 Z1) [Zc 4],Zd 44 Z1 43,Zb 45 (.faddr 1 Z19) [Zc 4],Zd 46 Z19 45,Zb 47 (.call 25) [Zc 42,Zc 44,Zc 46],Za 41 47,Zb 48 (.extract 0) [Zc 41],Zb 49 (.extract 1) [Zc 41],Zb 14 (.alloc 66 Z12) [],Zi Z12 14 48,Za 15 49] (.clean (Zg [Zd 51 Z23 8,Zb 52 (.faddr 0 Z1) [Zc 9],Zd 53 Z1 52,Zb 54 (.faddr 1 Z19) [Zc 9],Zd 55 Z19 54,Zb 56 (.call 25) [Zc 51,Zc 53,Zc 55],Za 50 56,Zb 57 (.extract 0) [Zc 50],Zb 58 (.extract 1) [Zc 50],Zb 16 (.alloc 66 Z12) [],Zi Z12 16 57,Za 17 58] (.clean (.seq (Zg [Za 59 15,Zb 60 (.bin .neq) [Zc 59,.int .i64 0],Za 61 60,Ze 62 .mv [Zc 17] 2 61 false,Ze 63 (.bin .neq) [Zc 62,.int .i64 0] 2 61 false,Zb 64 .pick [Zc 61,.bool true,Zc 63],Za 65 64,Ze 66 (.faddr 0 Z3) [Zc 14] 6 65 false,Ze 67 (.load Z3) [Zc 66] 6 65 false,Ze 68 (.len false) [Zc 67] 6 65 false,Ze 69 (.faddr 1 Z19) [Zc 4] 6 65 false,Ze 70 (.load Z19) [Zc 69] 6 65 false,Ze 71 (.len false) [Zc 70] 6 65 false,Ze 72 (.bin .add) [Zc 71,.int .i64 1] 6 65 false,Ze 73 (.bin .neq) [Zc 68,Zc 72] 6 65 false,Zb 74 .pick [Zc 65,.bool true,Zc 73],Za 75 74,Ze 76 (.faddr 0 Z3) [Zc 16] 16 75 false,Ze 77 (.load Z3) [Zc 76] 16 75 false,Ze 78 (.len false) [Zc 77] 16 75 false,Ze 79 (.faddr 1 Z19) [Zc 4] 16 75 false,Ze 80 (.load Z19) [Zc 79] 16 75 false,Ze 81 (.len false) [Zc 80] 16 75 false,Ze 82 (.bin .add) [Zc 81,.int .i64 3] 16 75 false,Ze 83 (.bin .neq) [Zc 78,Zc 82] 16 75 false,Zb 84 .pick [Zc 75,.bool true,Zc 83],Za 85 84,Ze 86 (.faddr 1 Z19) [Zc 9] 26 85 false,Ze 87 (.load Z19) [Zc 86] 26 85 false,Ze 88 (.len false) [Zc 87] 26 85 false,Ze 89 (.faddr 1 Z19) [Zc 4] 26 85 false,Ze 90 (.load Z19) [Zc 89] 26 85 false,Ze 91 (.len false) [Zc 90] 26 85 false,Ze 92 (.bin .add) [Zc 91,.int .i64 2] 26 85 false,Ze 93 (.bin .neq) [Zc 88,Zc 92] 26 85 false,Zb 94 .pick [Zc 85,.bool true,Zc 93],Za 95 94,Ze 96 .mv [Zc 10] 36 95 false,Ze 97 (.bin .lss) [Zc 96,.int .i64 0] 36 95 false,Zb 98 .pick [Zc 95,.bool true,Zc 97],Za 99 98,Ze 100 .mv [Zc 11] 40 99 false,Ze 101 .mv [Zc 10] 40 99 false,Ze 102 (.bin .lss) [Zc 100,Zc 101] 40 99 false,Zb 103 .pick [Zc 99,.bool true,Zc 102]] (.cond (Zc 103) (Zg [Zb 6 .mv [.bool false]] .ret) .skip)) (.clean (.seq (.seq (.reg true [Zb 104 (.faddr 0 Z3) [Zc 16],Zf 105 (.load Z3) [Zc 104] [0],Zf 106 (.iaddr Z2) [Zc 105,.int .i64 0] [1,0],Zf 107 (.load Z2) [Zc 106] [2,1,0],Zb 108 (.faddr 0 Z3) [Zc 14],Zf 109 (.load Z3) [Zc 108] [4],Zf 110 (.iaddr Z2) [Zc 109,.int .i64 0] [5,4],Zf 111 (.load Z2) [Zc 110] [6,5,4],Zf 112 (.steq true Z2) [Zc 107,Zc 111] [3,2,1,0,7,6,5,4]]) (.cond (Zc 112) (Zg [Zb 6 .mv [.bool false]] .ret) .skip)) (.clean (.seq (Zg [Zb 18 .mv [.int .i64 0]] (.block 0 (.loop x5_0))) (.clean (Zg [Za 157 7,Za 158 157,Ze 159 (.faddr 2 Z10) [Zc 16] 1 158 true,Ze 160 (.load Z10) [Zc 159] 1 158 true,Ze 161 (.len false) [Zc 160] 1 158 true,Ze 162 (.faddr 2 Z10) [Zc 14] 1 158 true,Ze 163 (.load Z10) [Zc 162] 1 158 true,Ze 164 (.len false) [Zc 163] 1 158 true,Ze 165 (.bin .add) [Zc 164,.int .i64 1] 1 158 true,Ze 166 (.bin .eql) [Zc 161,Zc 165] 1 158 true,Zb 167 .pick [Zc 158,Zc 166,.bool false],Za 6 167] .ret)))))))))))))))))))⟩
def x7:XF:=⟨154,[.tmp 10],[0,1,2,3,4,5,6,10,11,12,13,16,17,18,19,20,21],(Zg [Zb 5 (.box 29) [Zc 0],Zb 6 (.box 34) [Zc 1],Zb 10 .mv [.bool false]] (Zg [Zb 22 (.call 8) [],Za 11 22] (.seq (Zg [Zd 23 Z23 5,Zd 24 Z20 6,Zb 25 (.call 9) [Zc 23,Zc 24],Zb 26 .not [Zc 25],Za 27 26,Ze 28 .mv [Zc 4] 4 27 false,Ze 29 (.bin .eql) [Zc 28,.int .i8 0] 4 27 false,Zb 30 .pick [Zc 27,.bool true,Zc 29]] (.cond (Zc 30) (Zg [Za 31 11,Za 10 31] .ret) .skip)) (.clean (Zg [Zd 32 Z23 5,Zb 33 (.call 12) [Zc 32],Zb 12 (.alloc 43 Z23) [],Zi Z23 12 33] (Zg [Zd 35 Z23 12,Zd 36 Z20 6,Za 37 2,Zb 38 (.call 11) [Zc 35,Zc 36,Zc 37],Za 34 38,Zb 39 (.extract 0) [Zc 34],Zb 40 (.extract 1) [Zc 34],Zb 41 (.extract 2) [Zc 34],Zb 42 (.extract 3) [Zc 34],Zb 43 (.extract 4) [Zc 34],Zb 13 (.alloc 34 Z20) [],Zi Z20 13 39,Za 14 40,Za 15 41,Za 16 42,Za 17 43] (.clean (.seq (Zg [Za 44 17,Zb 45 (.bin .neq) [Zc 44,.int .i64 0],Za 46 45,Ze 47 .mv [Zc 17] 2 46 true,Ze 48 (.bin .neq) [Zc 47,.int .i64 4] 2 46 true,Zb 49 .pick [Zc 46,Zc 48,.bool false]] (.cond (Zc 49) (Zg [Za 50 11,Za 51 50,Ze 52 (.load Z23) [Zc 12] 1 51 true,Ze 53 (.load Z20) [Zc 6] 1 51 true,Ze 54 .mv [Zc 2] 1 51 true,Ze 55 (.load Z20) [Zc 13] 1 51 true,Ze 56 .mv [Zc 16] 1 51 true,Ze 57 (.call 19) [Zc 52,Zc 53,Zc 54,Zc 55,Zc 56] 1 51 true,Ze 58 .mv [Zc 17] 1 51 true,Ze 59 (.bin .eql) [Zc 57,Zc 58] 1 51 true,Zb 60 .pick [Zc 51,Zc 59,.bool false],Za 10 60] .ret) .skip)) (.clean (.seq (Zg [Za 61 16,Zb 62 (.len false) [Zc 61],Zb 63 (.bin .eql) [Zc 62,.int .i64 0],Za 64 63,Ze 65 (.load Z23) [Zc 12] 3 64 false,Ze 66 (.load Z20) [Zc 6] 3 64 false,Ze 67 .mv [Zc 2] 3 64 false,Ze 68 (.load Z20) [Zc 13] 3 64 false,Ze 69 .mv [Zc 16] 3 64 false,Ze 70 (.call 19) [Zc 65,Zc 66,Zc 67,Zc 68,Zc 69] 3 64 false,Ze 71 (.bin .neq) [Zc 70,.int .i64 0] 3 64 false,Zb 72 .pick [Zc 64,.bool true,Zc 71]] (.cond (Zc 72) (Zg [Zb 10 .mv [.bool false]] .ret) .skip)) (.clean (Zg [Za 73 3,Zb 74 (.conv .i64) [Zc 73],Za 75 16,Zb 76 (.len false) [Zc 75],Zb 77 (.bin .rem) [Zc 74,Zc 76],Za 18 77] (.clean (Zg [⟨some 78,.bslice 57 Z9 0 [],[],none,[]⟩,Za 79 16,Zb 80 (.append 57 Z9 32) [Zc 78,Zc 79],Za 19 80] (Zg [Za 81 19,Za 82 18,Za 83 19,Za 84 18,Zb 85 (.iaddr Z9) [Zc 83,Zc 84],Zb 86 (.faddr 3 Z1) [Zc 85],Zd 87 Z1 86,Za 88 4,Zb 89 (.conv .i64) [Zc 88],Zb 90 (.bin .add) [Zc 87,Zc 89],Zb 91 (.iaddr Z9) [Zc 81,Zc 82],Zb 92 (.faddr 3 Z1) [Zc 91],Zi Z1 92 90] (.clean (Zg [⟨some 93,.bslice 57 Z9 0 [],[],none,[]⟩,Za 94 16,Zb 95 (.append 57 Z9 32) [Zc 93,Zc 94],Za 20 95] (Zg [Za 96 20,Za 97 18,Za 98 20,Za 99 18,Zb 100 (.iaddr Z9) [Zc 98,Zc 99],Zb 101 (.faddr 2 Z1) [Zc 100],Zd 102 Z1 101,Za 103 4,Zb 104 (.conv .i64) [Zc 103],Zb 105 (.bin .add) [Zc 102,Zc 104],Zb 106 (.iaddr Z9) [Zc 96,Zc 97],Zb 107 (.faddr 2 Z1) [Zc 106],Zi Z1 107 105] (.clean (Zg [Zd 108 Z20 13,Zb 21 (.alloc 34 Z20) [],Zi Z20 21 108] (Zg [Zb 109 (.faddr 0 Z1) [Zc 21],Zd 110 Z1 109,Za 111 4,Zb 112 (.conv .i64) [Zc 111],Zb 113 (.bin .add) [Zc 110,Zc 112],Zb 114 (.faddr 0 Z1) [Zc 21],Zi Z1 114 113] (.clean (.seq (.reg true [Za 115 11,Zf 116 .mv [Zc 115] [0],Zh 117 (.load Z23) [Zc 12] 1 116 true [1,0],Zh 118 (.load Z20) [Zc 6] 1 116 true [1,0],Zh 119 .mv [Zc 2] 1 116 true [1,0],Zh 120 (.load Z20) [Zc 13] 1 116 true [1,0],Zh 121 .mv [Zc 19] 1 116 true [1,0],Zh 122 (.call 19) [Zc 117,Zc 118,Zc 119,Zc 120,Zc 121] 1 116 true [2,1,0,3,4,5,6],Zh 123 (.bin .eql) [Zc 122,.int .i64 23] 1 116 true [7,2,1,0,3,4,5,6],Zf 124 .pick [Zc 116,Zc 123,.bool false] [1,0,8,7,2,3,4,5,6],Zf 125 .mv [Zc 124] [9,1,0,8,7,2,3,4,5,6],Zh 126 (.load Z23) [Zc 12] 10 125 true [10,9,1,0,8,7,2,3,4,5,6],Zh 127 (.load Z20) [Zc 6] 10 125 true [10,9,1,0,8,7,2,3,4,5,6],Zh 128 .mv [Zc 2] 10 125 true [10,9,1,0,8,7,2,3,4,5,6],Zh 129 (.load Z20) [Zc 13] 10 125 true [10,9,1,0,8,7,2,3,4,5,6],Zh 130 .mv [Zc 20] 10 125 true [10,9,1,0,8,7,2,3,4,5,6],Zh 131 (.call 19) [Zc 126,Zc 127,Zc 128,Zc 129,Zc 130] 10 125 true [11,10,9,1,0,8,7,2,3,4,5,6,12,13,14,15],Zh 132 (.bin .eql) [Zc 131,.int .i64 23] 10 125 true [16,11,10,9,1,0,8,7,2,3,4,5,6,12,13,14,15],Zf 133 .pick [Zc 125,Zc 132,.bool false] [10,9,1,0,8,7,2,3,4,5,6,17,16,11,12,13,14,15],Zf 134 .mv [Zc 133] [18,10,9,1,0,8,7,2,3,4,5,6,17,16,11,12,13,14,15],Zh 135 (.load Z23) [Zc 12] 19 134 true [19,18,10,9,1,0,8,7,2,3,4,5,6,17,16,11,12,13,14,15],Zh 136 (.load Z20) [Zc 6] 19 134 true [19,18,10,9,1,0,8,7,2,3,4,5,6,17,16,11,12,13,14,15],Zh 137 .mv [Zc 2] 19 134 true [19,18,10,9,1,0,8,7,2,3,4,5,6,17,16,11,12,13,14,15],Zh 138 (.load Z20) [Zc 13] 19 134 true [19,18,10,9,1,0,8,7,2,3,4,5,6,17,16,11,12,13,14,15],Zh 139 .mv [Zc 16] 19 134 true [19,18,10,9,1,0,8,7,2,3,4,5,6,17,16,11,12,13,14,15],Zh 140 .mv [Zc 18] 19 134 true [19,18,10,9,1,0,8,7,2,3,4,5,6,17,16,11,12,13,14,15],Zh 141 (.slice Z9 false true false) [Zc 139,Zc 140] 19 134 true [24,19,18,10,9,1,0,8,7,2,3,4,5,6,17,16,11,12,13,14,15,25],Zh 142 (.call 19) [Zc 135,Zc 136,Zc 137,Zc 138,Zc 141] 19 134 true [20,19,18,10,9,1,0,8,7,2,3,4,5,6,17,16,11,12,13,14,15,21,22,23,26,24,25],Zh 143 (.bin .eql) [Zc 142,.int .i64 23] 19 134 true [27,20,19,18,10,9,1,0,8,7,2,3,4,5,6,17,16,11,12,13,14,15,21,22,23,26,24,25],Zf 144 .pick [Zc 134,Zc 143,.bool false] [19,18,10,9,1,0,8,7,2,3,4,5,6,17,16,11,12,13,14,15,28,27,20,21,22,23,26,24,25],Zf 145 .mv [Zc 144] [29,19,18,10,9,1,0,8,7,2,3,4,5,6,17,16,11,12,13,14,15,28,27,20,21,22,23,26,24,25],Zh 146 (.load Z23) [Zc 12] 30 145 true [30,29,19,18,10,9,1,0,8,7,2,3,4,5,6,17,16,11,12,13,14,15,28,27,20,21,22,23,26,24,25],Zh 147 (.load Z20) [Zc 6] 30 145 true [30,29,19,18,10,9,1,0,8,7,2,3,4,5,6,17,16,11,12,13,14,15,28,27,20,21,22,23,26,24,25],Zh 148 .mv [Zc 2] 30 145 true [30,29,19,18,10,9,1,0,8,7,2,3,4,5,6,17,16,11,12,13,14,15,28,27,20,21,22,23,26,24,25],Zh 149 (.load Z20) [Zc 21] 30 145 true [30,29,19,18,10,9,1,0,8,7,2,3,4,5,6,17,16,11,12,13,14,15,28,27,20,21,22,23,26,24,25],Zh 150 .mv [Zc 16] 30 145 true [30,29,19,18,10,9,1,0,8,7,2,3,4,5,6,17,16,11,12,13,14,15,28,27,20,21,22,23,26,24,25],Zh 151 (.call 19) [Zc 146,Zc 147,Zc 148,Zc 149,Zc 150] 30 145 true [31,30,29,19,18,10,9,1,0,8,7,2,3,4,5,6,17,16,11,12,13,14,15,28,27,20,21,22,23,26,24,25,32,33,34,35],Zh 152 (.bin .eql) [Zc 151,.int .i64 23] 30 145 true [36,31,30,29,19,18,10,9,1,0,8,7,2,3,4,5,6,17,16,11,12,13,14,15,28,27,20,21,22,23,26,24,25,32,33,34,35],Zf 153 .pick [Zc 145,Zc 152,.bool false] [30,29,19,18,10,9,1,0,8,7,2,3,4,5,6,17,16,11,12,13,14,15,28,27,20,21,22,23,26,24,25,37,36,31,32,33,34,35],Zf 10 .mv [Zc 153] [38,30,29,19,18,10,9,1,0,8,7,2,3,4,5,6,17,16,11,12,13,14,15,28,27,20,21,22,23,26,24,25,37,36,31,32,33,34,35]]) .ret)))))))))))))))))))))))⟩
end T
end Go.Proofs.YtjlofnjlhgbmoaaGreat
end
section
namespace Go.Proofs.YtjlofnjlhgbmoaaGreat
namespace T
def z6_0:XC:=(.seq (.seq (.reg false [Za 158 25,Za 159 17,Zf 160 (.len false) [Zc 159] [],Zf 161 (.bin .lss) [Zc 158,Zc 160] []]) (.cond (Zc 161) .skip (.exit 0))) (.seq (.block 1 (.seq (.reg true [Za 164 17,Za 165 25,Zf 166 (.iaddr Z9) [Zc 164,Zc 165] [0,1],Zf 167 (.faddr 2 Z1) [Zc 166] [2,0,1],Zf 168 (.load Z1) [Zc 167] [3,2,0,1],Zf 169 (.bin .neq) [Zc 168,.int .i64 27] [4,3,2,0,1],Zf 170 .mv [Zc 169] [5,4,3,2,0,1],Zh 171 .mv [Zc 17] 6 170 true [6,5,4,3,2,0,1],Zh 172 .mv [Zc 25] 6 170 true [6,5,4,3,2,0,1],Zh 173 (.iaddr Z9) [Zc 171,Zc 172] 6 170 true [7,6,5,4,3,2,0,1,8],Zh 174 (.load Z9) [Zc 173] 6 170 true [9,7,6,5,4,3,2,0,1,8],Zh 175 .mv [Zc 23] 6 170 true [6,5,4,3,2,0,1],Zh 176 .mv [Zc 25] 6 170 true [6,5,4,3,2,0,1],Zh 177 (.iaddr Z9) [Zc 175,Zc 176] 6 170 true [11,6,5,4,3,2,0,1,12],Zh 178 (.load Z9) [Zc 177] 6 170 true [13,11,6,5,4,3,2,0,1,12],Zh 179 (.steq true Z9) [Zc 174,Zc 178] 6 170 true [10,9,7,6,5,4,3,2,0,1,8,14,13,11,12],Zf 180 .pick [Zc 170,Zc 179,.bool false] [6,5,4,3,2,0,1,15,10,9,7,8,14,13,11,12]]) (.cond (Zc 180) (.seq (.reg false [Zf 12 .mv [.bool false] []]) .ret) .skip))) (.clean (.reg false [Za 162 25,Zf 163 (.bin .add) [Zc 162,.int .i64 1] [],Za 25 163]))))
def z6_0d:List Nat:=[12,25]
def z6:XF:=⟨182,[.tmp 12],[0,1,2,3,4,5,6,7,12,13,14,17,18,19,20,23,24,25],(Zg [Zb 6 (.box 29) [Zc 0],Zb 7 (.box 34) [Zc 1],Zb 12 .mv [.bool false]] (Zg [Zb 26 (.call 8) [],Za 13 26] (.seq (Zg [Zd 27 Z23 6,Zd 28 Z20 7,Zb 29 (.call 9) [Zc 27,Zc 28],Zb 30 .not [Zc 29],Za 31 30,Ze 32 (.faddr 0 Z1) [Zc 7] 4 31 false,Ze 33 (.load Z1) [Zc 32] 4 31 false,Ze 34 (.bin .lss) [Zc 33,.int .i64 0] 4 31 false,Zb 35 .pick [Zc 31,.bool true,Zc 34],Za 36 35,Ze 37 (.faddr 0 Z1) [Zc 7] 9 36 false,Ze 38 (.load Z1) [Zc 37] 9 36 false,Ze 39 (.faddr 2 Z22) [Zc 6] 9 36 false,Ze 40 (.load Z22) [Zc 39] 9 36 false,Ze 41 (.len false) [Zc 40] 9 36 false,Ze 42 (.bin .geq) [Zc 38,Zc 41] 9 36 false,Zb 43 .pick [Zc 36,.bool true,Zc 42]] (.cond (Zc 43) (Zg [Za 44 13,Za 12 44] .ret) .skip)) (.clean (.seq (.reg true [Zd 46 Z23 6,Zf 47 (.call 12) [Zc 46] [0],Zd 48 Z20 7,Za 49 2,Zf 50 (.call 11) [Zc 47,Zc 48,Zc 49] [1,0,2,3],Zf 45 .mv [Zc 50] [4,1,0,2,3],Zf 51 (.extract 0) [Zc 45] [5,4,1,0,2,3],Zf 52 (.extract 1) [Zc 45] [5,4,1,0,2,3],Zf 53 (.extract 2) [Zc 45] [5,4,1,0,2,3],Zf 54 (.extract 3) [Zc 45] [5,4,1,0,2,3],Zf 55 (.extract 4) [Zc 45] [5,4,1,0,2,3],Zb 14 (.alloc 34 Z20) [],⟨none,.store Z20,[Zc 14,Zc 51],none,[11,6,5,4,1,0,2,3]⟩,Zf 15 .mv [Zc 52] [7,5,4,1,0,2,3,12,11,6],Zf 16 .mv [Zc 53] [8,5,4,1,0,2,3,13,7,12,11,6],Zf 17 .mv [Zc 54] [9,5,4,1,0,2,3,14,8,13,7,12,11,6],Zf 18 .mv [Zc 55] [10,5,4,1,0,2,3,15,9,14,8,13,7,12,11,6]]) (.clean (Zg [Zd 56 Z23 6,Zb 19 (.alloc 29 Z23) [],⟨none,.store Z23,[Zc 19,Zc 56],none,[]⟩] (Zg [⟨some 57,.bslice 74 Z18 0 [],[],none,[]⟩,Zb 58 (.faddr 2 Z22) [Zc 6],Zd 59 Z22 58,Zb 60 (.append 74 Z18 72) [Zc 57,Zc 59],Zb 61 (.faddr 2 Z22) [Zc 19],⟨none,.store Z22,[Zc 61,Zc 60],none,[]⟩] (.seq (.reg true [Zb 62 (.faddr 2 Z22) [Zc 19],Zf 63 (.load Z22) [Zc 62] [0],Zb 64 (.faddr 0 Z1) [Zc 7],Zf 65 (.load Z1) [Zc 64] [2],Zb 66 (.faddr 2 Z22) [Zc 19],Zf 67 (.load Z22) [Zc 66] [4],Zb 68 (.faddr 0 Z1) [Zc 7],Zf 69 (.load Z1) [Zc 68] [6],Zf 70 (.iaddr Z18) [Zc 67,Zc 69] [5,4,7,6],Zf 71 (.faddr 4 Z1) [Zc 70] [8,5,4,7,6],Zf 72 (.load Z1) [Zc 71] [9,8,5,4,7,6],Za 73 3,Zf 74 (.bin .rem) [Zc 73,.int .u8 20] [11],Zf 75 (.conv .i64) [Zc 74] [12,11],Zf 76 (.bin .add) [Zc 72,Zc 75] [10,9,8,5,4,7,6,13,12,11],Zf 77 (.iaddr Z18) [Zc 63,Zc 65] [1,0,3,2,4,5,6,7,8,9,10,11,12,13,14],Zf 78 (.faddr 4 Z1) [Zc 77] [15,1,0,3,2,4,5,6,7,8,9,10,11,12,13,14],⟨none,.store Z1,[Zc 78,Zc 76],none,[16,15,1,0,3,2,4,5,6,7,8,9,10,11,12,13,14]⟩]) (.clean (.seq (.reg true [Zb 79 (.faddr 2 Z22) [Zc 19],Zf 80 (.load Z22) [Zc 79] [0],Zb 81 (.faddr 0 Z1) [Zc 7],Zf 82 (.load Z1) [Zc 81] [2],Zb 83 (.faddr 2 Z22) [Zc 19],Zf 84 (.load Z22) [Zc 83] [4],Zb 85 (.faddr 0 Z1) [Zc 7],Zf 86 (.load Z1) [Zc 85] [6],Zf 87 (.iaddr Z18) [Zc 84,Zc 86] [5,4,7,6],Zf 88 (.faddr 5 Z1) [Zc 87] [8,5,4,7,6],Zf 89 (.load Z1) [Zc 88] [9,8,5,4,7,6],Za 90 4,Zf 91 (.bin .rem) [Zc 90,.int .u8 20] [11],Zf 92 (.conv .i64) [Zc 91] [12,11],Zf 93 (.bin .add) [Zc 89,Zc 92] [10,9,8,5,4,7,6,13,12,11],Zf 94 (.iaddr Z18) [Zc 80,Zc 82] [1,0,3,2,4,5,6,7,8,9,10,11,12,13,14],Zf 95 (.faddr 5 Z1) [Zc 94] [15,1,0,3,2,4,5,6,7,8,9,10,11,12,13,14],⟨none,.store Z1,[Zc 95,Zc 93],none,[16,15,1,0,3,2,4,5,6,7,8,9,10,11,12,13,14]⟩]) (.clean (.seq (.reg true [Zb 96 (.faddr 2 Z22) [Zc 19],Zf 97 (.load Z22) [Zc 96] [0],Zb 98 (.faddr 0 Z1) [Zc 7],Zf 99 (.load Z1) [Zc 98] [2],Zb 100 (.faddr 2 Z22) [Zc 19],Zf 101 (.load Z22) [Zc 100] [4],Zb 102 (.faddr 0 Z1) [Zc 7],Zf 103 (.load Z1) [Zc 102] [6],Zf 104 (.iaddr Z18) [Zc 101,Zc 103] [5,4,7,6],Zf 105 (.faddr 6 Z1) [Zc 104] [8,5,4,7,6],Zf 106 (.load Z1) [Zc 105] [9,8,5,4,7,6],Za 107 5,Zf 108 (.bin .rem) [Zc 107,.int .u8 20] [11],Zf 109 (.conv .i64) [Zc 108] [12,11],Zf 110 (.bin .add) [Zc 106,Zc 109] [10,9,8,5,4,7,6,13,12,11],Zf 111 (.iaddr Z18) [Zc 97,Zc 99] [1,0,3,2,4,5,6,7,8,9,10,11,12,13,14],Zf 112 (.faddr 6 Z1) [Zc 111] [15,1,0,3,2,4,5,6,7,8,9,10,11,12,13,14],⟨none,.store Z1,[Zc 112,Zc 110],none,[16,15,1,0,3,2,4,5,6,7,8,9,10,11,12,13,14]⟩]) (.top (.clean (.seq (Zg [Za 113 18,Zb 114 (.bin .neq) [Zc 113,.int .i64 0],Za 115 114,Ze 116 .mv [Zc 18] 2 115 true,Ze 117 (.bin .neq) [Zc 116,.int .i64 4] 2 115 true,Zb 118 .pick [Zc 115,Zc 117,.bool false],Za 119 118,Ze 120 (.load Z23) [Zc 19] 6 119 false,Ze 121 (.call 12) [Zc 120] 6 119 false,Ze 122 (.call 26) [Zc 121] 6 119 false,Ze 123 .not [Zc 122] 6 119 false,Zb 124 .pick [Zc 119,.bool true,Zc 123]] (.cond (Zc 124) (Zg [Za 125 13,Za 12 125] .ret) .skip)) (.clean (.seq (.reg true [Zd 127 Z23 19,Zf 128 (.call 12) [Zc 127] [0],Zd 129 Z20 7,Za 130 2,Zf 131 (.call 11) [Zc 128,Zc 129,Zc 130] [1,0,2,3],Zf 126 .mv [Zc 131] [4,1,0,2,3],Zf 132 (.extract 0) [Zc 126] [5,4,1,0,2,3],Zf 133 (.extract 1) [Zc 126] [5,4,1,0,2,3],Zf 134 (.extract 2) [Zc 126] [5,4,1,0,2,3],Zf 135 (.extract 3) [Zc 126] [5,4,1,0,2,3],Zf 136 (.extract 4) [Zc 126] [5,4,1,0,2,3],Zb 20 (.alloc 34 Z20) [],⟨none,.store Z20,[Zc 20,Zc 132],none,[11,6,5,4,1,0,2,3]⟩,Zf 21 .mv [Zc 133] [7,5,4,1,0,2,3,12,11,6],Zf 22 .mv [Zc 134] [8,5,4,1,0,2,3,13,7,12,11,6],Zf 23 .mv [Zc 135] [9,5,4,1,0,2,3,14,8,13,7,12,11,6],Zf 24 .mv [Zc 136] [10,5,4,1,0,2,3,15,9,14,8,13,7,12,11,6]]) (.clean (.seq (Zg [Za 137 24,Zb 138 (.bin .neq) [Zc 137,.int .i64 0],Za 139 138,Ze 140 .mv [Zc 24] 2 139 true,Ze 141 (.bin .neq) [Zc 140,.int .i64 4] 2 139 true,Zb 142 .pick [Zc 139,Zc 141,.bool false],Za 143 142,Ze 144 .mv [Zc 17] 6 143 false,Ze 145 (.len false) [Zc 144] 6 143 false,Ze 146 .mv [Zc 23] 6 143 false,Ze 147 (.len false) [Zc 146] 6 143 false,Ze 148 (.bin .neq) [Zc 145,Zc 147] 6 143 false,Zb 149 .pick [Zc 143,.bool true,Zc 148],Za 150 149,Ze 151 .mv [Zc 18] 13 150 false,Ze 152 (.bin .eql) [Zc 151,.int .i64 0] 13 150 false,Ze 153 .mv [Zc 152] 13 150 false,Ze 154 .mv [Zc 24] 16 153 true,Ze 155 (.bin .neq) [Zc 154,.int .i64 0] 16 153 true,Ze 156 .pick [Zc 153,Zc 155,.bool false] 13 150 false,Zb 157 .pick [Zc 150,.bool true,Zc 156]] (.cond (Zc 157) (Zg [Zb 12 .mv [.bool false]] .ret) .skip)) (.clean (.seq (Zg [Zb 25 .mv [.int .i64 0]] (.block 0 (.loop z6_0))) (Zg [Za 181 13,Za 12 181] .ret)))))))))))))))))))))))⟩
end T
end Go.Proofs.YtjlofnjlhgbmoaaGreat
end
section
namespace Go.Proofs.YtjlofnjlhgbmoaaGreat
open Go.ChangeShapes Go.WideShapes Go.ChangeAt Go.RowKit Go.Joins
theorem own:ownKnob Tryz.prog.godebug=none:=by kernel_rfl
theorem laidOut:laidOutB Tryz.prog=true:=by kernel_rfl
end Go.Proofs.YtjlofnjlhgbmoaaGreat
end
section
namespace Go.Proofs.YtjlofnjlhgbmoaaGreat
open Go.RowKit Go.IntWalk
namespace T
def rg (n:Nat):List Nat:=List.range n
theorem rgI (n:Nat):List.range (n+1)=rg (n+1):=rfl
attribute [go_sem ↓] rgI xwp_top xwp_dead xwp_nxt xwp_rfor xwp_yld rndA_n rndB_n backR_n backR_r hasLp_mk leQ_mk xwp_icall backQ_n backQ_r backQ_e xwp_clean xwp_seq xwp_skip xwp_ret xwp_exit xwp_block xwp_loop xwp_reg xwp_cond thn_n thn_e thn_r XQ.seq XQ.blk
attribute [go_sem] nilOf slicey oslx copyx clearx srcx nxF nxT rndA_x rndB_x rndA_r rndB_r backR_e setLp entY entR ylOf List.zip_cons_cons List.zip_nil_left List.zip_nil_right mapOf keyOf' afterI entI exI oneAV keepI XO.reads XA.slot eqsx eqd List.drop_zero List.take_length Int.toNat_zero Int.toNat_natCast List.set_cons_zero List.set_cons_succ tmG cleanS headT numb rensT tmle fastD runR_true runR_false quiet Eff.tch List.getElem?_cons_succ List.getElem?_cons_zero List.getElem?_nil runT stepT gop gcond opg pickx boolOf XOp.isPick opx stripL strip pur XO.gv XA.av setT appL killL effOk ltAll AV.locs AV.locsL OB.locs look enter resAVs binx intBin eqx lenx condOf loadx partOf storex splice cellsOf scatter zeroAV fieldx faddrx iaddrx bounds avInt avIntK avBool extx slicex fillx rowx callx callvx fn1x fn2x findEnt rdL rdA rdClo rdCap rd rd1 rdAgg rdPtr rdc rd1c ofCst proj upd appendx freshEff ownx isNilV nilx plainArg Ent.own Option.isSome_some Option.isSome_none minx Ty.isSt Ty.size Ty.scalar Ty.dflt cast?_self List.map_cons List.map_nil List.getD_cons_zero List.getD_cons_succ List.length_cons List.length_nil List.cons_append List.nil_append List.append_nil List.filter_cons List.filter_nil List.isEmpty_nil List.isEmpty_cons Option.map_some Option.map_none Option.bind_some Option.isNone_none Option.isNone_some Bool.false_eq_true if_true if_false ite_true ite_false Bool.and_true Bool.true_and Bool.and_false Bool.false_and and_true true_and and_self not_true_eq_false not_false_eq_true imp_self forall_const true_imp_iff implies_true decide_true decide_false cond_true cond_false List.find?_cons List.find?_nil beq_self_eq_true List.take_zero List.drop_succ_cons List.take_succ_cons retQ finish resAll resAV freshIs stepD runD okD meet reach reachO restr inAll effIn headOf puts put1 keep le' autoρ tidy renB rens ren1 asle avles avle hple oble uniq sub locOk assoc disj List.all_cons List.all_nil List.any_cons List.any_nil List.contains_nil List.contains_cons List.flatMap_cons List.flatMap_nil List.mem_cons List.not_mem_nil or_false false_or or_true true_or or_self Bool.or_false Bool.or_true Bool.true_or Bool.false_or Bool.not_true Bool.not_false List.take_nil List.drop_nil eq_self Option.some.injEq false_and and_false Bool.true_beq Bool.false_beq
theorem td:(∀ n,rg n=List.range n)∧(∀ {α:Type} {x:Decidable True} (t e:α),(if True then t else e)=t)∧(∀ {α:Type} {x:Decidable False} (t e:α),(if False then t else e)=e)∧(∀ (h:Decidable True),decide True=true)∧(∀ (h:Decidable False),decide False=false)∧((false=true)=False)∧(∀ {a:Prop},(True→a) ↔ a)∧((¬True)=False)∧((¬False)=True)∧(∀ (a:Prop),(False→a) ↔ True)∧(∀ (p:Prop),(p∧False)=False)∧(∀ (p:Prop),(False∧p)=False)∧(∀ (p:Prop),(p∨False)=p)∧(∀ (p:Prop),(False∨p)=p)∧(∀ (b:Bool),(b == false) = !b)∧(∀ (b:Bool),(b == true)=b)∧(∀ (a b:Bool),(bif a then b else false)=(a && b))∧(∀ (a b:Bool),(bif a then true else b)=(a || b))∧(∀ (b:Bool),(!!b)=b)∧(∀ (b:Bool),((!b)=true)=(b=false))∧(∀ (b:Bool),((!b)=false)=(b=true))∧(∀ (a b:Bool),((a || b)=true)=(a=true∨b=true))∧(∀ {x y:Bool},(x || y)=false ↔ x=false∧y=false)∧(∀ (a b:Bool),((a && b)=true)=(a=true∧b=true))∧(∀ {x y:Bool},(x && y)=false ↔ (x=true→y=false))∧(∀ {p:Prop} [inst:Decidable p],(decide p=true)=p)∧(∀ {p:Prop} {x:Decidable p},decide p=false ↔ ¬p)∧(∀ {α:Type} [inst:BEq α] [LawfulBEq α] {a b:α},(a != b)=true ↔ a≠b)∧(∀ {α:Type} [inst:BEq α] [LawfulBEq α] {a b:α},(a != b)=false ↔ a=b)∧(∀ {α:Type} [inst:BEq α] [LawfulBEq α] {a b:α},(a == b)=true ↔ a=b)∧(∀ {α:Type} [inst:BEq α] [LawfulBEq α] {a b:α},(a == b)=false ↔ a≠b)∧(∀ {α:Type} (a b:α),(a≠b) = ¬a=b)∧(∀ (n:Nat),(n:Int).toNat=n)∧(∀ {a b:Int},¬a < b ↔ b≤a)∧(∀ {a b:Int},¬a≤b ↔ b < a)∧(∀ {α:Type} [inst:LE α] {x y:α},x ≥ y ↔ y≤x)∧(∀ {α:Type} [inst:LT α] {x y:α},x > y ↔ y < x)∧(∀ (n:Nat),0≤(n:Int))∧(∀ {n m:Nat},(n:Int) < (m:Int) ↔ n < m)∧(∀ {a:Prop},(a→a) ↔ True)∧(∀ (p:Prop),(p∧True)=p)∧(∀ (p:Prop),(True∧p)=p)∧(∀ (α:Type),(∀ (a:α),True)=True)∧(∀ (α:Prop),(∀ (a:α),True)=True)∧(∀ {m n:Nat},(m:Int)=(n:Int) ↔ m=n)∧(∀ (p:Prop),(p∧p)=p)∧(∀ {a:Prop},¬¬a ↔ a):=⟨fun _=>rfl,@if_true,@if_false,@decide_true,@decide_false,@Bool.false_eq_true,@true_imp_iff,@not_true_eq_false,@not_false_eq_true,@false_imp_iff,@and_false,@false_and,@or_false,@false_or,@eqf,@eqt,@bif_and,@bif_or,@Bool.not_not,@Bool.not_eq_true',@Bool.not_eq_false',@Bool.or_eq_true,@Bool.or_eq_false_iff,@Bool.and_eq_true,@Bool.and_eq_false_imp,@decide_eq_true_eq,@decide_eq_false_iff_not,@bne_iff_ne,@bne_eq_false_iff_eq,@beq_iff_eq,@beq_eq_false_iff_ne,@ne_eq,@Int.toNat_natCast,@Int.not_lt,@Int.not_le,@ge_iff_le,@gt_iff_lt,@Int.natCast_nonneg,@Int.ofNat_lt,@imp_self,@and_true,@true_and,@implies_true,@implies_true,@Int.ofNat_inj,@and_self,@Classical.not_not⟩
end T
end Go.Proofs.YtjlofnjlhgbmoaaGreat
end
