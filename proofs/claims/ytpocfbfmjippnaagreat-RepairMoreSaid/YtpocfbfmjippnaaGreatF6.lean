/- Parts of the proof of the law; no condition. -/
import Derived.Test.YtpocfbfmjippnaaGreatF5
set_option linter.all false
section
namespace Go.Proofs.YtpocfbfmjippnaaGreat
open Go.RowKit
namespace T
theorem locsL_own {l k:Nat}:∀{avs:List AV} {u:Nat},k∈AV.locsL (avs.set u (.own l))→k∈AV.locsL avs∨k=l
 |[],_,h=>.inl h
 |x::r,0,h=>by
  rw[List.set_cons_zero,AV.locsL] at h;rw[AV.locsL];rcases List.mem_append.1 h with h|h
  ·exact .inr (by simpa [AV.locs] using h)
  ·exact .inl (List.mem_append_right _ h)
 |x::r,u+1,h=>by
  rw[List.set_cons_succ,AV.locsL] at h;rw[AV.locsL];rcases List.mem_append.1 h with h|h
  ·exact .inl (List.mem_append_left _ h)
  ·rcases locsL_own h with h|h
   ·exact .inl (List.mem_append_right _ h)
   ·exact .inr h
theorem XW_nilb {P:Program} {C:List Ent} {n:Nat} {c:XC} {Q:XQ} {st:AS} (m u:Nat) (e:TypeId) (t:Ty) {T:TypeId} {cs:List AV} (h1:look st.hp m=some (.box T cs)) (hu:cs[u]?=some (.cst (.slice none 0 0)))
  (h:XW P C n c Q ⟨st.tm,appL ⟨.top,[],some (m,.box T (cs.set u (.own st.nx)))⟩ ((st.nx,.row e t [])::st.hp),st.nx+1+1,st.kv⟩):XW P C n c Q st:=by
 intro code hc hC B M w0 ψ a w s ro hR
 have c0:=sim_ctx s
 have hnew:=c0.new
 have hM:(fun x=>M x∧blk (Value.slice none 0 0)≠some x)=M:=by
  funext x;simp[blk]
 have s1:=Sim.adopt s (ob:=.row e t []) (u:=.slice none 0 0) (fun b hb=>by simp[blk] at hb) (fun k hk=>by simp[OB.locs] at hk)
  ⟨[],by rw[upd'_same];exact ⟨by simp,.inl ⟨rfl,rfl⟩⟩,rfl⟩
 rw[hM] at s1
 have s1:=Sim.base s1 s.bel
 have c1:=sim_ctx s1
 have hne:m≠st.nx:=fun q=>by rw[q,hnew] at h1;cases h1
 have h1':look ((st.nx,.row e t [])::st.hp) m=some (.box T cs):=by rw[look_cons,putHp_other _ _ hne];exact h1
 have hob:=s1.hok.ob m _ h1'
 obtain ⟨b,cells,e1,hB,hg,q,q1⟩:=hob
 obtain ⟨v,hv,hav⟩:=q.at hu
 have hvn:v= .slice none 0 0:=hav
 subst hvn
 have op:OpPost P B M (look ((st.nx,.row e t [])::st.hp)) (upd' ψ st.nx (.slice none 0 0)) w (st.nx+1) ⟨.top,[],some (m,.box T (cs.set u (.own st.nx)))⟩ undef w:=by
  refine c1.write (ob:=.box T (cs.set u (.own st.nx))) h1' trivial (by simp) rfl rfl rfl (Nat.le_refl _) (fun _ _ _=>rfl) (fun hlt=>⟨b,cells,e1,hB,hg,?_,q1⟩) (fun _=>trivial);have hk:=put_kind (fr:=st.nx+1) (ks:=[]) h1' (ob:=.box T (cs.set u (.own st.nx))) trivial;refine AVRs.put (AVRs.later hlt (fun _ _=>rfl) hk (c1.obs m _ h1') q) hv ?_;intro ob _;exact (upd'_same _ _ _).symm
 obtain ⟨ψ',hs⟩:=s1.step (d:=none) (v:=undef) (A':=fun l=>l<st.nx+1+1) (Nat.lt_irrefl _) (fun _ e=>by cases e) (fun _ h=>Nat.lt_succ_of_lt h) (Nat.lt_succ_self _) (fun l' _ e=>by injection e with e;injection e with e e';subst e;exact Nat.lt_succ_of_lt (s1.hlt _ _ h1').1) (fun _ h=>by simp[AV.locs] at h)
  (fun l' ob' e k hk=>by
   injection e with e;injection e with e e';subst e';rcases locsL_own hk with hk|rfl
   ·exact Nat.lt_succ_of_lt ((s1.hlt _ _ h1').2 k hk)
   ·omega) op
 refine h code hc hC B M w0 ψ' a w ?_ ro hR
 unfold Sim
 dsimp only
 rw[look_app]
 exact hs
end T
end Go.Proofs.YtpocfbfmjippnaaGreat
end
section
namespace Go.Proofs.YtpocfbfmjippnaaGreat
namespace T
def z56_0:XC:=(Zg [Zb 25 (.bin .lss) [Zc 24,Zc 23]] (.seq (.cond (Zc 25) .skip (.exit 0)) (.seq (.block 1 (Zg [Zb 26 (.iaddr Z2) [Zc 22,Zc 24],Zd 27 Z2 26,Zb 6 (.alloc 89 Z2) [],⟨none,.store Z2,[Zc 6,Zc 27],none,[]⟩] (.reg true [Zd 28 Z9 4,Zd 29 Z9 4,Zd 30 Z9 4,Zf 31 (.len false) [Zc 30] [2],Zf 32 (.bin .sub) [Zc 31,.int .i64 1] [3,2],Zf 33 (.iaddr Z1) [Zc 29,Zc 32] [1,4,3,2],Zf 34 (.load Z1) [Zc 33] [5,1,4,3,2],Zb 35 (.faddr 1 Z1) [Zc 6],Zf 36 (.load Z1) [Zc 35] [7],Zf 37 (.bin .add) [Zc 34,Zc 36] [6,5,1,4,3,2,8,7],Zf 38 (.bslice 3 Z1 1 [0]) [Zc 37] [9,6,5,1,4,3,2,8,7],Zf 39 (.append 3 Z1 8) [Zc 28,Zc 38] [0,10,9,6,5,1,4,3,2,8,7],⟨none,.store Z9,[Zc 4,Zc 39],none,[11,0,10,9,6,5,1,4,3,2,8,7]⟩]))) (.reg false [Zb 40 (.bin .add) [Zc 24,.int .i64 1],Zb 24 .mv [Zc 40]]))))
def z56_0d:List Nat:=[6,24]
def z56_3:XC:=(.seq (Zg [Za 83 12,Zb 84 (.faddr 1 Z1) [Zc 11],Zb 85 (.load Z1) [Zc 84],Zb 86 (.bin .leq) [Zc 83,Zc 85]] (.cond (Zc 86) .skip (.exit 6))) (.seq (.block 7 (.reg true [Za 89 8,Za 90 9,Za 91 8,Za 92 9,Zf 93 (.iaddr Z1) [Zc 91,Zc 92] [2,3],Zf 94 (.load Z1) [Zc 93] [4,2,3],Za 95 8,Za 96 12,Zf 97 (.iaddr Z1) [Zc 95,Zc 96] [6,7],Zf 98 (.load Z1) [Zc 97] [8,6,7],Za 99 7,Za 100 12,Zb 101 (.faddr 1 Z1) [Zc 11],Zf 102 (.load Z1) [Zc 101] [12],Zf 103 .callv [Zc 99,Zc 100,Zc 102] [10,11,13,12],Zf 104 (.bin .add) [Zc 98,Zc 103] [9,8,6,7,14,10,11,13,12],Zb 105 (.faddr 2 Z1) [Zc 11],Zf 106 (.load Z1) [Zc 105] [16],Zf 107 (.bin .sub) [Zc 104,Zc 106] [15,9,8,6,7,14,10,11,13,12,17,16],Zf 108 .max [Zc 94,Zc 107] [5,4,2,3,18,15,9,8,6,7,14,10,11,13,12,17,16],Zf 109 (.iaddr Z1) [Zc 89,Zc 90] [0,1,2,3,4,5,6,7,8,9,10,11,12,13,14,15,16,17,18,19],⟨none,.store Z1,[Zc 109,Zc 108],none,[20,0,1,2,3,4,5,6,7,8,9,10,11,12,13,14,15,16,17,18,19]⟩])) (.clean (.reg false [Za 87 12,Zb 88 (.bin .add) [Zc 87,.int .i64 1],Za 12 88]))))
def z56_3d:List Nat:=[12]
def z56_2:XC:=(Zg [Zb 66 (.bin .lss) [Zc 65,Zc 64]] (.seq (.cond (Zc 66) .skip (.exit 4)) (.seq (.block 5 (Zg [Zb 67 (.iaddr Z5) [Zc 63,Zc 65],Zb 68 (.load Z5) [Zc 67],Zb 11 (.alloc 149 Z5) [],⟨none,.store Z5,[Zc 11,Zc 68],none,[]⟩] (.seq (Zg [Zb 69 (.faddr 0 Z1) [Zc 11],Zb 70 (.load Z1) [Zc 69],Za 71 9,Zb 72 (.bin .neq) [Zc 70,Zc 71]] (.cond (Zc 72) (.exit 5) .skip)) (.seq (.seq (.reg true [Za 73 7,Za 74 9,Zb 75 (.faddr 1 Z1) [Zc 11],Zf 76 (.load Z1) [Zc 75] [2],Zf 77 .callv [Zc 73,Zc 74,Zc 76] [0,1,3,2],Zb 78 (.faddr 2 Z1) [Zc 11],Zf 79 (.load Z1) [Zc 78] [5],Zf 80 (.bin .gtr) [Zc 77,Zc 79] [4,0,1,3,2,6,5]]) (.cond (Zc 80) (Zg [Zb 2 (.nilrow 3 Z1) [],Zb 3 .mv [.int .i64 20]] .ret) .skip)) (.clean (Zg [Za 81 9,Zb 82 (.bin .add) [Zc 81,.int .i64 1],Za 12 82] (.block 6 (.loop z56_3)))))))) (.reg false [Zb 110 (.bin .add) [Zc 65,.int .i64 1],Za 65 110]))))
def z56_2d:List Nat:=[2,3,11,12,65]
def z56_1:XC:=(.seq (Zg [Za 49 9,Zb 50 (.bin .geq) [.t 49,.int .i64 0]] (.cond (.t 50) .skip (.exit 2))) (.seq (.block 3 (Zg [Za 53 8,Za 54 9,Zb 55 (.faddr 0 Z3) [.t 1],Zd 56 Z3 55,Za 57 9,Zb 58 (.iaddr Z2) [.t 56,.t 57],Zb 59 (.faddr 0 Z1) [.t 58],Zd 60 Z1 59,Zb 61 (.iaddr Z1) [.t 53,.t 54],⟨none,.store Z1,[.t 61,.t 60],none,[]⟩] (.clean (Zg [Zb 62 (.faddr 2 Z13) [.t 1],Zd 63 Z13 62,Zb 64 (.len false) [.t 63],Zb 65 .mv [.int .i64 0]] (.block 4 (.loop z56_2)))))) (.clean (.reg false [Za 51 9,Zb 52 (.bin .sub) [.t 51,.int .i64 1],Za 9 52]))))
def z56_1d:List Nat:=[2,3,9,11,12,63,64,65]
def z56_4:XC:=(Zg [Zb 120 (.bin .lss) [.t 119,.t 118]] (.seq (.cond (.t 120) .skip (.exit 8)) (.seq (.block 9 (Zg [Za 121 119,Zb 122 (.iaddr Z1) [.t 117,.t 119],Zd 123 Z1 122,Za 15 121,Za 16 123] (Zg [Za 124 16,Zb 125 (.faddr 0 Z3) [.t 1],Zd 126 Z3 125,Za 127 15,Zb 128 (.iaddr Z2) [.t 126,.t 127],Zb 129 (.faddr 1 Z1) [.t 128],Zd 130 Z1 129,Zb 131 (.bin .gtr) [.t 124,.t 130]] (.cond (.t 131) (Zg [Zb 2 (.nilrow 3 Z1) [],Zb 3 .mv [.int .i64 20]] .ret) .skip)))) (.reg false [Zb 132 (.bin .add) [.t 119,.int .i64 1],Za 119 132]))))
def z56_4d:List Nat:=[2,3,15,16,119]
def z56:XF:=⟨134,[.tmp 2,.tmp 3],[0,1,2,3,4,6,7,8,9,11,12,13,15,16,22,23,24,63,64,65,117,118,119],(Zg [Zb 1 (.box 102) [Zc 0],Zb 2 (.nilrow 3 Z1) [],Zb 3 .mv [.int .i64 0]] (.seq (Zg [Zd 17 Z14 1,Zb 18 (.call 53) [Zc 17],Zb 19 .not [Zc 18]] (.cond (Zc 19) (Zg [Zb 2 (.nilrow 3 Z1) [],Zb 3 .mv [.int .i64 1]] .ret) .skip)) (.clean (Zg [Zb 20 (.bslice 3 Z1 1 [0]) [.int .i64 0],Zb 4 (.alloc 31 Z9) [],⟨none,.store Z9,[Zc 4,Zc 20],none,[]⟩] (.seq (Zg [Zb 21 (.faddr 1 Z3) [Zc 1],Zd 22 Z3 21,Zb 23 (.len false) [Zc 22],Zb 24 .mv [.int .i64 0]] (.block 0 (.loop z56_0))) (.clean (Zg [Zb 41 (.mkfn 101) [Zc 4],Za 7 41] (Zg [Zb 42 (.faddr 0 Z3) [Zc 1],Zd 43 Z3 42,Zb 44 (.len false) [Zc 43],Zb 45 (.mkslice 3 Z1 8) [Zc 44,Zc 44],Za 8 45] (.seq (Zg [Za 46 8,Zb 47 (.len false) [Zc 46],Zb 48 (.bin .sub) [Zc 47,.int .i64 1],Za 9 48] (.block 2 (.loop z56_1))) (.top (.clean (Zg [Zd 112 Z14 1,Za 113 8,Zb 114 (.call 79) [Zc 112,Zc 113],Za 111 114,Zb 115 (.extract 0) [Zc 111],Zb 116 (.extract 1) [Zc 111],Za 13 115,Za 14 116] (.clean (.seq (Zg [Za 117 13,Zb 118 (.len false) [Zc 117],Zb 119 .mv [.int .i64 0]] (.block 8 (.loop z56_4))) (.clean (Zg [Za 133 8,Za 2 133,Zb 3 .mv [.int .i64 0]] .ret))))))))))))))))⟩
end T
end Go.Proofs.YtpocfbfmjippnaaGreat
end
section
namespace Go.Proofs.YtpocfbfmjippnaaGreat
open Go.RowKit Go.Lib
namespace T
set_option maxRecDepth 100000
theorem wpList_copyI (w:World) {P:Program} {ops:Array Oper} {rest:List Oper} {o:Oper} {a:Act} {Q:Exit→Act→World→Prop} (hgd:o.guard=none) (d s:Operand) (t t':TypeId)
  (ho:o.op= .call { callee:=.builtin .copy,args:=#[d,s],argTypes:=#[t,t'] }) (v u:Value) (hd:a.eval d=v) (hs:a.eval s=u) {v':Value} {w':World}
  (hr:(Builtin.copy_ #[t,t'] o.type #[v,u]).run P w= .ok v' w') (h:wpList P ops Q rest (a.put o.dst v') w'):wpList P ops Q (o::rest) a w:=
 wpList_plain hgd fun _ hK=>by
  unfold Oper.wp execOp;simp only[ho,resolve,invoke,builtin,Sem.run_bind,Sem.run_pure,Result.andThen_ok,List.map_toArray,List.map_cons,List.map_nil,hd,hs,hr];exact hK _ _ h
theorem step_copyI {P:Program} {ops:Array Oper} {o:Oper} {a:Act} {w:World} {K:Act→World→Prop} {Q:Exit→Act→World→Prop} {E:Prop}
  (hg:o.guard=none) (d x:Operand) (dT sT:TypeId) (hop:o.op=Op.call { callee:=Callee.builtin Builtin.copy,args:=#[d,x],argTypes:=#[dT,sT] })
  (v u:Value) (hd:a.eval d=v) (hx:a.eval x=u) {v':Value} {w':World} (hr:(Builtin.copy_ #[dT,sT] o.type #[v,u]).run P w= .ok v' w') (hK:K (a.put o.dst v') w'):
  if Region.wanted o (yielded ops a.tmps)=true then Oper.wp P o a w K Q else E:=by
 have hw:Region.wanted o (yielded ops a.tmps)=true:=by simp[Region.wanted,hg]
 rw[if_pos hw]
 unfold Oper.wp
 simp[execOp,hop,resolve,invoke,builtin,hd,hx,hr,Result.andThen]
 exact hK
theorem insStop_end {w:World} {v:Value} {n:Nat} {cells vs:List Value} (hown:w.ownsRow 0 68 2 v n cells) {vb voff vc:Nat} (hvl:vs.length=2) (hvs:∀j u,vs[j]?=some u→w.cell? ((⟨vb,voff,none⟩:Addr).add j)=some u) (h1:∀u∈vs,u.oneCell'=true) (hb:(n+1)*16≤140737488355328):
  Calls Tryz.prog 137 #[v,.int .i64 n,.slice (some ⟨vb,voff,none⟩) 1 vc] w fun e w'=>∃v',e= .returned v'∧w'.ownsRow 0 68 2 v' (n+1) (cells++vs)∧w.grownBy w' v.ownBlock∧Near w v v':=by
 obtain ⟨hu,i,hi,his⟩:=elemOk_spec (P:=Tryz.prog) (T:=62) (e:=68) (t:=Z8) (by kernel_rfl)
 obtain ⟨i',z,hi',hz',hrd⟩:=zeroIs_spec (P:=Tryz.prog) (T:=68) (t:=Z8) (by kernel_rfl)
 rw[hi] at hi';injection hi' with hi';subst hi'
 have hzs:z.cells.size=2:=by have:=(hrd w (fun _=>False)).len;simpa [Ty.size] using this
 have hby:(Tryz.prog.info? 68).map (·.bytes)=some 16:=by kernel_rfl
 rw[hi] at hby
 simp only[Option.map_some,Option.some.injEq] at hby
 obtain ⟨v',w',hr,k1,k2,k3⟩:=append_near (P:=Tryz.prog) (w:=w) 0 62 62 68 i z 2 16 hu hi hz' his hby hzs (by omega) v n cells hown ⟨vb,voff,none⟩ 1 vc vs (by rw[hvl]) hvs h1 (by simp only[maxLen];omega) hb (Nat.zero_le _)
 obtain ⟨A,c,rfl⟩:=ownsRow_slice hown
 rcases hown.2 with ⟨q,q'⟩|⟨g,cap,cur,q,_,hg,hnc,hcap,_⟩
 ·injection q with q1 q2 q3
  subst q1;subst q3;subst q'
  go_enter Tryz.func137,Tryz.ntmps137
  go_wp2_with (at_builtin;refine Lib.wpList_append_run _ rfl _ _ _ _ rfl _ _ rfl rfl _ _ hr ?_)
  go_ret
  exact ⟨_,rfl,k1,k2,k3⟩
 ·injection q with q1 q2 q3
  subst q1;subst q3
  simp only[maxLen] at hcap
  go_enter Tryz.func137,Tryz.ntmps137
  go_wp2_with (at_builtin;refine Lib.wpList_append_run _ rfl _ _ _ _ rfl _ _ rfl rfl _ _ hr ?_)
  all_goals (go_ret;exact ⟨_,rfl,k1,k2,k3⟩)
set_option maxHeartbeats 4000000 in
set_option maxRecDepth 100000 in
theorem insStop_shift {w:World} {g n cap i:Nat} {cur:Array Value} (hg:w.heap[g]?=some (.cells cur 68 (0,0))) (hcs:cur.size=cap*2) (hroom:n+1≤cap) (hcap:cap≤9223372036854775807) (hi:i<n) (h1c:∀u∈cur.toList.take (n*2),u.oneCell'=true)
  {vs:List Value} {vb voff vc:Nat} (hvl:vs.length=2) (hvs:∀j u,vs[j]?=some u→w.cell? ((⟨vb,voff,none⟩:Addr).add j)=some u) (h1:∀u∈vs,u.oneCell'=true) {curv:Array Value} {ev:TypeId} (hgv:w.heap[vb]?=some (.cells curv ev (0,0))) (hne:vb≠g):
  Calls Tryz.prog 137 #[.slice (some ⟨g,0,none⟩) n cap,.int .i64 i,.slice (some ⟨vb,voff,none⟩) 1 vc] w fun e w'=>e= .returned (.slice (some ⟨g,0,none⟩) (n+1) cap)∧
   ∃cur':Array Value,w'.heap[g]?=some (.cells cur' 68 (0,0))∧cur'.size=cap*2∧cur'.toList.take ((n+1)*2)=cur.toList.take ((i*2))++vs++(cur.toList.take (n*2)).drop ((i*2))∧w.grownBy w' (some g):=by
 obtain ⟨hu,inf,hin,his⟩:=elemOk_spec (P:=Tryz.prog) (T:=62) (e:=68) (t:=Z8) (by kernel_rfl)
 have his:inf.size=2:=his
 have hszE:∀w:World,(Go.sizeOf 68).run Tryz.prog w= .ok 2 w:=fun w=>by simp[sizeOf,typeInfo,hin,his]
 have hov:∀o lb cb,(callFunc 188 #[.slice (some ⟨vb,voff,none⟩) 1 vc,.slice (some ⟨g,o,none⟩) lb cb]).run Tryz.prog w= .ok (.value (.bool false)) w:=fun o lb cb=>by
  rw[run_callFunc_extern Tryz.func188 (by kernel_rfl) (by kernel_rfl) (by kernel_rfl) (e:=Extern.SlicesOverlaps.overlaps #[62,62] #[4]) (by kernel_rfl),
   Lib.run_overlaps_apart w 62 4 68 hu 2 hszE ⟨vb,voff,none⟩ ⟨g,o,none⟩ 1 vc lb cb hne ev 68 curv.size cur.size (by simp[World.shape?,hgv]) (by simp[World.shape?,hg]) (by omega) (by simp[World.frozen?,hgv]) (by simp[World.frozen?,hgv])]
  rfl
 obtain ⟨C,hC⟩:∃C,C=cur.toList.take (n*2):=⟨_,rfl⟩
 have hCl:C.length=n*2:=by rw[hC,List.length_take,Array.length_toList];omega
 rw[←hC] at h1c⊢
 have hCat:∀k v,C[k]?=some v→cur[k]?=some v:=fun k v h=>by
  rw[hC,List.getElem?_take] at h;split at h
  ·simpa using h
  ·cases h
 obtain ⟨c1,hc1⟩:∃c1:Array Value,c1=(cur.toList.take (((i+1)*2))++C.drop ((i*2))++cur.toList.drop (((i+1)*2)+(C.drop ((i*2))).length)).toArray:=⟨_,rfl⟩
 have hgD:w.drew.heap[g]?=some (.cells cur 68 (0,0)):=hg
 have hcp1:∀ty dc sc,(Builtin.copy_ #[62,62] ty #[.slice (some ⟨g,((i+1)*2),none⟩) (n-i) dc,.slice (some ⟨g,(i*2),none⟩) (n+1-i) sc]).run Tryz.prog w.drew= .ok (goInt (Nat.min (n+1-i) (n-i):Nat)) (w.drew.setRow g c1):=fun ty dc sc=>by
  rw[hc1];exact run_copy_sized (P:=Tryz.prog) (w:=w.drew) (T':=62) (ty:=ty) (oc:=id) hu hin his (o:=((i+1)*2)) (dLen:=n-i) (dCap:=dc) (sLen:=n+1-i) (sCap:=sc) (a:=⟨g,(i*2),none⟩) (cs:=C.drop ((i*2))) hgD
   (by rw[List.length_drop,hCl,show Nat.min (n+1-i) (n-i)=n-i from Nat.min_eq_right (by omega)];omega)
   (fun j v hj=>by
    rw[List.getElem?_drop] at hj;have:=hCat _ _ hj;rw[Addr.add_lit];simp[World.cell?,hgD,this])
   (by rw[List.length_drop,hCl,hcs];omega) (fun v hv=>h1c v (List.mem_of_mem_drop hv))
 have hc1s:c1.size=cap*2:=by
  rw[hc1];simp only[List.size_toArray,List.length_append,List.length_take,List.length_drop,Array.length_toList,hCl,hcs];omega
 have hg1:(w.drew.setRow g c1).heap[g]?=some (.cells c1 68 (0,0)):=setRow_heap _ _ _ _ _ _ hgD
 obtain ⟨c2,hc2⟩:∃c2:Array Value,c2=(c1.toList.take ((i*2))++vs++c1.toList.drop ((i*2)+vs.length)).toArray:=⟨_,rfl⟩
 have hcp2:∀ty dc,(Builtin.copy_ #[62,62] ty #[.slice (some ⟨g,(i*2),none⟩) (n+1-i) dc,.slice (some ⟨vb,voff,none⟩) 1 vc]).run Tryz.prog (w.drew.setRow g c1)= .ok (goInt (Nat.min 1 (n+1-i):Nat)) ((w.drew.setRow g c1).setRow g c2):=fun ty dc=>by
  rw[hc2];exact run_copy_sized (P:=Tryz.prog) (w:=w.drew.setRow g c1) (T':=62) (ty:=ty) (oc:=id) hu hin his (o:=(i*2)) (dLen:=n+1-i) (dCap:=dc) (sLen:=1) (sCap:=vc) (a:=⟨vb,voff,none⟩) (cs:=vs) hg1
   (by rw[hvl,show Nat.min 1 (n+1-i)=1 from Nat.min_eq_left (by omega)])
   (fun j v hj=>by
    have:=hvs j v hj;rwa [World.cell?_of_block (w:=w) (a:=(⟨vb,voff,none⟩:Addr).add j) (by rw[Addr.add_lit,setRow_other _ _ _ _ hne];rfl)])
   (by rw[hvl,hc1s];omega) h1
 have a1:(cur.toList.take ((i+1)*2)).length=((i+1)*2):=by rw[List.length_take,Array.length_toList];omega
 have e1:c1.toList.take (i*2)=cur.toList.take (i*2):=by
  rw[hc1,List.append_assoc,List.take_append_of_le_length (by omega),List.take_take,Nat.min_eq_left (by omega)]
 have e2:c1.toList.drop ((i*2)+vs.length)=C.drop (i*2)++cur.toList.drop (((i+1)*2)+(C.drop (i*2)).length):=by
  rw[hc1,hvl,show (i*2)+2=((i+1)*2) by omega,List.append_assoc];exact List.drop_left' a1
 have hc2s:c2.size=cap*2:=by
  rw[hc2];simp only[List.size_toArray,List.length_append,List.length_take,List.length_drop,Array.length_toList,hvl,hc1s];omega
 have hc2t:c2.toList.take ((n+1)*2)=cur.toList.take (i*2)++vs++C.drop (i*2):=by
  rw[hc2,e1,e2,←List.append_assoc];refine List.take_left' ?_;simp only[List.length_append,List.length_take,List.length_drop,Array.length_toList,hvl,hCl];omega
 have mixed:Tryz.prog.follows Departure.mixedOrders=true:=by kernel_rfl
 have hw1:IntKind.i64.wrap ((i:Int)+1)=(i:Int)+1:=by rw[IntKind.wrap_i64];omega
 have hb1:(0:Int)≤(i:Int)+1:=by omega
 have hin':i≤n:=by omega
 have htn:((i:Int)+1).toNat=i+1:=by omega
 have hb2:¬(cap=i+1):=by omega
 have hb3:(i:Int)≤(n:Int)+1:=by omega
 have hb4:¬(cap=i):=by omega
 clear hc1 hc2
 go_enter Tryz.func137,Tryz.ntmps137
 go_wp2_with (simp only[hov])
 go_region_law_o (refine step_copyI rfl _ _ 62 62 rfl _ _ (by simp[Act.eval,Act.put]) (by simp[Act.eval,Act.put]) (hcp1 _ _ _) ?_)
 go_wp2_with (at_builtin;refine wpList_copyI _ rfl _ _ 62 62 rfl _ _ rfl rfl (hcp2 _ _) ?_)
 go_ret
 refine ⟨rfl,c2,setRow_heap _ _ _ _ _ _ hg1,hc2s,hc2t,⟨rfl,rfl,rfl,by simp,fun k hk hn=>?_⟩⟩
 have hkg:k≠g:=fun e=>hn (by rw[e])
 rw[setRow_other _ _ _ _ hkg,setRow_other _ _ _ _ hkg];rfl
set_option maxHeartbeats 4000000 in
set_option maxRecDepth 100000 in
theorem insStop_grow {w:World} {g n cap i:Nat} {cur:Array Value} (hg:w.heap[g]?=some (.cells cur 68 (0,0))) (hcs:cur.size=cap*2) (hnc:n≤cap) (hroom:cap<n+1) (hcap:cap≤9223372036854775807) (hi:i<n) (hbig:(n+1)*16≤140737488355328) (h1c:∀u∈cur.toList.take (n*2),u.oneCell'=true)
  {vs:List Value} {vb voff vc:Nat} (hvl:vs.length=2) (hvs:∀j u,vs[j]?=some u→w.cell? ((⟨vb,voff,none⟩:Addr).add j)=some u) (h1:∀u∈vs,u.oneCell'=true) (hvw:vb<w.heap.size):
  Calls Tryz.prog 137 #[.slice (some ⟨g,0,none⟩) n cap,.int .i64 i,.slice (some ⟨vb,voff,none⟩) 1 vc] w fun e w'=>∃c',e= .returned (.slice (some ⟨w.heap.size,0,none⟩) (n+1) c')∧
   ∃cur':Array Value,w'.heap[w.heap.size]?=some (.cells cur' 68 (0,0))∧(n+1≤c'∧c'≤maxLen)∧cur'.size=c'*2∧cur'.toList.take ((n+1)*2)=cur.toList.take (i*2)++vs++(cur.toList.take (n*2)).drop (i*2)∧w.grownBy w' none:=by
 obtain ⟨hu,inf,hin,his⟩:=elemOk_spec (P:=Tryz.prog) (T:=62) (e:=68) (t:=Z8) (by kernel_rfl)
 have his:inf.size=2:=his
 obtain ⟨i',z,hi',hz',hrd⟩:=zeroIs_spec (P:=Tryz.prog) (T:=68) (t:=Z8) (by kernel_rfl)
 rw[hin] at hi';injection hi' with hi';subst hi'
 have hzs:z.cells.size=2:=by have:=(hrd w (fun _=>False)).len;simpa [Ty.size] using this
 have hby:(Tryz.prog.info? 68).map (·.bytes)=some 16:=by kernel_rfl
 rw[hin] at hby
 simp only[Option.map_some,Option.some.injEq] at hby
 obtain ⟨C,hC⟩:∃C,C=cur.toList.take (n*2):=⟨_,rfl⟩
 have hCl:C.length=n*2:=by rw[hC,List.length_take,Array.length_toList];omega
 rw[←hC] at h1c⊢
 have hCat:∀k v,C[k]?=some v→cur[k]?=some v:=fun k v h=>by
  rw[hC,List.getElem?_take] at h;split at h
  ·simpa using h
  ·cases h
 have hgw:g<w.heap.size:=lt_of_block hg
 have hold:(Builtin.firstCells inf.size i (.slice (some ⟨g,0,none⟩) i cap)).run Tryz.prog w.drew= .ok (cur.toList.take (i*2)).toArray w.drew:=by
  rw[his];exact run_firstCells_some w.drew 2 i ⟨g,0,none⟩ i cap (cur.toList.take (i*2)) (by rw[List.length_take,Array.length_toList];omega) (fun j v hj=>by
   rw[Addr.add_lit];rw[List.getElem?_take] at hj;split at hj
   ·have:w.drew.heap[g]?=some (.cells cur 68 (0,0)):=hg;have hj:cur[j]?=some v:=by simpa using hj
    simp[World.cell?,this,hj]
   ·cases hj)
 have hrz:∀ty,(Builtin.append_ #[62,3] ty #[.slice (some ⟨g,0,none⟩) i cap,.int .i64 ((n:Int)+1-(i:Int))]).run Tryz.prog w= .ok (.slice (some ⟨w.heap.size,0,none⟩) (n+1) (grownCap w (n+1) cap 68)) (w.drew.alloc (.cells ((cur.toList.take (i*2)).toArray++Builtin.zeroCells z.cells (n+1-i)++Builtin.zeroCells z.cells (grownCap w (n+1) cap 68-(n+1))) 68)):=fun ty=>by
  have h:=Lib.run_append_grow_zeros w 62 3 ty 68 inf z .i64 .i64 hu Tryz.underlying3 hin hz' (some ⟨g,0,none⟩) i cap (cur.toList.take (i*2)) hold (n+1-i) (by omega) (by omega) (by omega) (by omega) (by rw[hby];omega) (by rw[hby,show i+(n+1-i)=n+1 by omega];exact growslice_fits hroom hbig);rw[show i+(n+1-i)=n+1 by omega] at h;rw[show (n:Int)+1-(i:Int)=((n+1-i:Nat):Int) by omega];exact h
 obtain ⟨G,hG⟩:∃G,G=grownCap w (n+1) cap 68:=⟨_,rfl⟩
 obtain ⟨R0,hR0⟩:∃R0:Array Value,R0=(cur.toList.take (i*2)).toArray++Builtin.zeroCells z.cells (n+1-i)++Builtin.zeroCells z.cells (G-(n+1)):=⟨_,rfl⟩
 rw[←hG] at hrz
 rw[←hR0] at hrz
 have hGn:n+1≤G:=by rw[hG];exact grownCap_ge w _ _ _
 have hGm:G≤maxLen:=by rw[hG];exact grownCap_le_maxLen w (n+1) cap 68 (by unfold maxLen;omega)
 have hG63:G≤9223372036854775807:=by unfold maxLen at hGm;omega
 have hz0:∀k,(Builtin.zeroCells z.cells k).size=k*2:=fun k=>by simp[Builtin.zeroCells,hzs]
 have hR0s:R0.size=G*2:=by
  rw[hR0];simp only[Array.size_append,List.size_toArray,List.length_take,Array.length_toList,hz0];omega
 have hR0t:R0.toList.take (i*2)=cur.toList.take (i*2):=by
  rw[hR0,Array.append_assoc,Array.toList_append];exact List.take_left' (by rw[List.length_take,Array.length_toList];omega)
 obtain ⟨W1,hW1⟩:∃W1,W1=w.drew.alloc (.cells R0 68):=⟨_,rfl⟩
 rw[←hW1] at hrz
 have hN1:W1.heap[w.heap.size]?=some (.cells R0 68 (0,0)):=by rw[hW1];exact (Array.getElem?_push_size ..)
 have hO1:∀b,b<w.heap.size→W1.heap[b]?=w.heap[b]?:=fun b hb=>by rw[hW1];exact Below.heap_alloc w _ b hb
 obtain ⟨r1,hr1⟩:∃r1:Array Value,r1=(R0.toList.take (i*2)++vs++R0.toList.drop ((i*2)+vs.length)).toArray:=⟨_,rfl⟩
 have hcpA:∀(W:World),(∀b:Nat,W.heap[b]?=W1.heap[b]?)→∀ty dc,(Builtin.copy_ #[62,62] ty #[.slice (some ⟨w.heap.size,(i*2),none⟩) (n+1-i) dc,.slice (some ⟨vb,voff,none⟩) 1 vc]).run Tryz.prog W= .ok (goInt (Nat.min 1 (n+1-i):Nat)) (W.setRow w.heap.size r1):=fun W hW ty dc=>by
  rw[hr1];exact run_copy_sized (P:=Tryz.prog) (w:=W) (T':=62) (ty:=ty) (oc:=id) hu hin his (o:=(i*2)) (dLen:=n+1-i) (dCap:=dc) (sLen:=1) (sCap:=vc) (a:=⟨vb,voff,none⟩) (cs:=vs) (by rw[hW];exact hN1)
   (by rw[hvl,show Nat.min 1 (n+1-i)=1 from Nat.min_eq_left (by omega)])
   (fun j v hj=>by
    have:=hvs j v hj;rwa [World.cell?_of_block (w:=w) (a:=(⟨vb,voff,none⟩:Addr).add j) (by rw[Addr.add_lit,hW];exact hO1 _ hvw)])
   (by rw[hvl,hR0s];omega) h1
 have hr1s:r1.size=G*2:=by
  rw[hr1];simp only[List.size_toArray,List.length_append,List.length_take,List.length_drop,Array.length_toList,hvl,hR0s];omega
 have hr1t:r1.toList.take ((i+1)*2)=cur.toList.take (i*2)++vs:=by
  rw[hr1,hR0t];refine List.take_left' ?_;simp only[List.length_append,List.length_take,Array.length_toList,hvl];omega
 obtain ⟨r2,hr2⟩:∃r2:Array Value,r2=(r1.toList.take ((i+1)*2)++C.drop (i*2)++r1.toList.drop (((i+1)*2)+(C.drop (i*2)).length)).toArray:=⟨_,rfl⟩
 have hcpB:∀(W:World),(∀b:Nat,W.heap[b]?=(W1.setRow w.heap.size r1).heap[b]?)→∀ty dc sc,(Builtin.copy_ #[62,62] ty #[.slice (some ⟨w.heap.size,((i+1)*2),none⟩) (n-i) dc,.slice (some ⟨g,(i*2),none⟩) (n-i) sc]).run Tryz.prog W= .ok (goInt (Nat.min (n-i) (n-i):Nat)) (W.setRow w.heap.size r2):=fun W hW ty dc sc=>by
  rw[hr2];exact run_copy_sized (P:=Tryz.prog) (w:=W) (T':=62) (ty:=ty) (oc:=id) hu hin his (o:=((i+1)*2)) (dLen:=n-i) (dCap:=dc) (sLen:=n-i) (sCap:=sc) (a:=⟨g,(i*2),none⟩) (cs:=C.drop (i*2)) (by rw[hW];exact setRow_heap _ _ _ _ _ _ hN1)
   (by rw[List.length_drop,hCl,show Nat.min (n-i) (n-i)=n-i from Nat.min_self _];omega)
   (fun j v hj=>by
    rw[List.getElem?_drop] at hj;have:=hCat _ _ hj;rw[World.cell?_of_block (w:=w) (a:=(⟨g,(i*2),none⟩:Addr).add j) (by rw[Addr.add_lit,hW,setRow_other _ _ _ _ (by dsimp only;omega)];exact hO1 _ hgw),Addr.add_lit];simp[World.cell?,hg,this])
   (by rw[List.length_drop,hCl,hr1s];omega) (fun v hv=>h1c v (List.mem_of_mem_drop hv))
 have hr2s:r2.size=G*2:=by
  rw[hr2];simp only[List.size_toArray,List.length_append,List.length_take,List.length_drop,Array.length_toList,hCl,hr1s];omega
 have hr2t:r2.toList.take ((n+1)*2)=cur.toList.take (i*2)++vs++C.drop (i*2):=by
  rw[hr2,hr1t];refine List.take_left' ?_;simp only[List.length_append,List.length_take,List.length_drop,Array.length_toList,hvl,hCl];omega
 have hfin:∀W:World,W.heap[w.heap.size]?=some (.cells r2 68 (0,0))→(∀b,b<w.heap.size→W.heap[b]?=w.heap[b]?)→W.os=w.os→W.tape=w.tape→W.output=w.output→w.heap.size≤W.heap.size→
   ∃c',Ending.returned (.slice (some ⟨w.heap.size,0,none⟩) (n+1) G)= .returned (.slice (some ⟨w.heap.size,0,none⟩) (n+1) c')∧∃cur':Array Value,W.heap[w.heap.size]?=some (.cells cur' 68 (0,0))∧(n+1≤c'∧c'≤maxLen)∧cur'.size=c'*2∧cur'.toList.take ((n+1)*2)=cur.toList.take (i*2)++vs++C.drop (i*2)∧w.grownBy W none:=fun W q1 q2 q3 q4 q5 q6=>
  ⟨G,rfl,r2,q1,⟨hGn,hGm⟩,hr2s,hr2t,⟨q3,q4,q5,q6,fun k hk _=>q2 k hk⟩⟩
 have hN2:(W1.setRow w.heap.size r1).heap[w.heap.size]?=some (.cells r1 68 (0,0)):=setRow_heap _ _ _ _ _ _ hN1
 have mixed:Tryz.prog.follows Departure.mixedOrders=true:=by kernel_rfl
 have hw1:IntKind.i64.wrap ((i:Int)+1)=(i:Int)+1:=by rw[IntKind.wrap_i64];omega
 have hb1:(0:Int)≤(i:Int)+1:=by omega
 have hin':i≤n:=by omega
 have htn:((i:Int)+1).toNat=i+1:=by omega
 have hb3:(i:Int)≤(n:Int):=by omega
 have hb5:(i:Int)≤(n:Int)+1:=by omega
 have hz3:(cap:Int)<(n:Int)+1:=by omega
 have hGi:¬(G=i):=by omega
 have hGim:¬(G=i+1):=by omega
 have hci:¬(cap=i):=by omega
 subst hW1
 have hE:∀b:Nat,((w.alloc (.cells R0 68)).drew).heap[b]?=(w.drew.alloc (.cells R0 68)).heap[b]?:=fun _=>rfl
 have hF:∀b:Nat,(((w.alloc (.cells R0 68)).drew.setRow w.heap.size r1).drew).heap[b]?=((w.drew.alloc (.cells R0 68)).setRow w.heap.size r1).heap[b]?:=fun _=>rfl
 clear hr1 hr2 hR0 hG hold
 go_enter Tryz.func137,Tryz.ntmps137
 go_wp2_with (first
  |(at_builtin;refine Lib.wpList_append_run _ rfl _ _ _ _ rfl _ _ rfl rfl _ _ (hrz _) ?_)
  |(at_builtin;refine wpList_copyI _ rfl _ _ 62 62 rfl _ _ rfl rfl (hcpA _ hE _ _) ?_))
 go_region_law_o (refine step_copyI rfl _ _ 62 62 rfl (.slice (some ⟨w.heap.size,((i+1)*2),none⟩) (n-i) (G-(i+1))) (.slice (some ⟨g,(i*2),none⟩) (n-i) (cap-i)) (by simp[Act.eval,Act.put]) (by simp[Act.eval,Act.put]) (hcpB _ hF 3 (G-(i+1)) (cap-i)) ?_)
 go_wp2
 go_ret
 refine hfin _ ?_ ?_ rfl rfl rfl ?_
 ·exact setRow_heap _ _ _ _ _ _ hN2
 ·intro b hb
  rw[setRow_other _ _ _ _ (by omega)]
  refine Eq.trans ?_ (hO1 b hb)
  exact setRow_other _ _ _ _ (by omega)
 ·simp
def insF {α:Type} (x:List α) (i:Nat) (v:List α):List α:=x.take i++v++x.drop i
def entInsStop:Ent:=⟨137,.cons Z10 (.cons Z1 (.cons Z10 .nil)),.sl Z8,true,some 68,fun x=>(0≤(x.2.1:Int)∧(x.2.1:Int)≤List.length (α:=(Int×Bool)) x.1)∧List.length (α:=(Int×Bool)) x.2.2.1=1∧List.length (α:=(Int×Bool)) x.1≤1000000,fun x=>insF (α:=(Int×Bool)) x.1 (x.2.1:Int).toNat x.2.2.1⟩
theorem conInsStop:Con Tryz.prog entInsStop:=by
 unfold Con;rw[if_pos (by rfl)];refine ⟨by kernel_rfl,?_⟩;rintro (x:List (Int×Bool)) ⟨(n:Int),(v:List (Int×Bool)),_⟩ ⟨⟨h0,h1⟩,hv1,hsm⟩ w M u us cells hM hMu hown hrow hargs hplain;have h0:0≤n:=h0;have h1:n≤x.length:=h1;obtain ⟨i,rfl⟩:∃i:Nat,n=i:=⟨n.toNat,by omega⟩;obtain ⟨u1,us1,rfl,hu1,u2,us2,rfl,hu2,rfl⟩:=hargs;obtain ⟨rfl,_⟩:=avr_int (P:=Tryz.prog) (hp:=fun _=>none) (ψ:=fun _=>undef) hu1;have hv1:v.length=1:=hv1;have hsm:x.length≤1000000:=hsm;have hu2':RdV Tryz.prog Z10 w M v u2:=hu2;obtain ⟨A2,k2,c2,e2,hlen2,hkc2,hcm2,hd2⟩:=(RdV.one (t:=.sl Z8) hu2' rfl rfl).1;simp only[List.cons.injEq,and_true] at e2;subst e2;have hk2:k2=1:=by rw[←hlen2];exact hv1
 subst hk2;rcases hd2 with hd2|⟨vb,voff,vs,rfl,hvw,hvM,hvc,hvr⟩
 ·cases hd2
 have hvl:vs.length=2:=by
  have:=RowsBy.len (n:=2) (fun (d:(Int×Bool)) c (q:Rd Tryz.prog Z8 w M d c)=>q.len) hvr;rw[hv1] at this;omega
 have hvs:∀j u,vs[j]?=some u→w.cell? ((⟨vb,voff,none⟩:Addr).add j)=some u:=fun j u h=>by rw[Addr.add_lit];exact hvc j u h
 have hone:∀{zs:List (Int×Bool)} {cs:List Value},RowsBy (fun x c=>Rd Tryz.prog Z8 w M x c) zs cs→∀u∈cs,u.oneCell'=true:=by
  intro zs;induction zs with
  |nil=>intro cs h u hu;obtain rfl:cs=[]:=h;simp at hu
  |cons z r ih=>
   rintro cs ⟨c1,c2,rfl,q1,q2⟩ u hu;rcases List.mem_append.1 hu with hu|hu
   ·exact Rd.one q1 u hu
   ·exact ih q2 u hu
 have h1v:=hone hvr;have h1c:=hone hrow;have hcl:cells.length=x.length*2:=hown.1;obtain ⟨r1,r2,er,hr1,hr2⟩:=RowsBy.split (xs:=x.take i) (ys:=x.drop i) (by rw[List.take_append_drop];exact hrow);have hr1l:r1.length=(i*2):=by
  have:=RowsBy.len (n:=2) (fun (d:(Int×Bool)) c (q:Rd Tryz.prog Z8 w M d c)=>q.len) hr1;rw[List.length_take] at this;omega
 have hrows:RowsBy (fun x c=>Rd Tryz.prog Z8 w M x c) (insF x i v) (cells.take (i*2)++vs++cells.drop (i*2)):=by
  unfold insF;have t1:cells.take (i*2)=r1:=by rw[er];exact List.take_left' hr1l
  have t2:cells.drop (i*2)=r2:=by rw[er];exact List.drop_left' hr1l
  rw[t1,t2];exact (hr1.append hvr).append hr2
 have hFl:(insF x i v).length=x.length+1:=by unfold insF;simp only[List.length_append,List.length_take,List.length_drop,hv1];omega
 obtain ⟨hne,curv,ev,hgv⟩:=hplain (.slice (some ⟨vb,voff,none⟩) 1 c2) (by simp) vb rfl;show Calls Tryz.prog 137 #[u,.int .i64 i,.slice (some ⟨vb,voff,none⟩) 1 c2] w fun en w'=>∃v' cells',en= .returned v'∧w'.ownsRow 0 68 2 v' (insF x (Int.toNat i) v).length cells'∧RowsBy (fun x c=>Rd Tryz.prog Z8 w M x c) (insF x (Int.toNat i) v) cells'∧w.grownBy w' u.ownBlock∧(blk v'=blk u∨∃g,blk v'=some g∧w.heap.size≤g);rw[Int.toNat_natCast,hFl];have hown':w.ownsRow 0 68 2 u x.length cells:=hown;by_cases hi:i=x.length
 ·subst hi;refine Calls.mono (insStop_end (v:=u) hown' (vb:=vb) (voff:=voff) (vc:=c2) hvl hvs h1v (by omega)) ?_;rintro en w' ⟨v',rfl,k1,k2,k3⟩;obtain ⟨A,cX,eX⟩:=ownsRow_slice hown';obtain ⟨A',cX',eX'⟩:=ownsRow_slice k1;refine ⟨v',_,rfl,k1,?_,k2,?_⟩
  ·have t1:∀k,k=x.length*2→cells.take k++vs++cells.drop k=cells++vs:=fun k e=>by
    rw[List.take_of_length_le (by omega),List.drop_of_length_le (by omega),List.append_nil]
   rw[t1 _ (by omega)] at hrows;exact hrows
  ·rw[blk_own eX',blk_own eX];exact k3
 ·have hin:i<x.length:=by omega
  rcases hown'.2 with ⟨_,q⟩|⟨g,cap,cur,rfl,_,hg,hnc,hcap,hcs,htk⟩
  ·omega
  have hcap':cap≤9223372036854775807:=hcap;have htk2:cur.toList.take (i*2)=cells.take (i*2):=by rw[←htk,List.take_take,Nat.min_eq_left (by omega)]
  have hbne:vb≠g:=fun e=>hne (by rw[e];rfl);by_cases hroom:x.length+1≤cap
  ·refine Calls.mono (insStop_shift hg hcs hroom hcap' hin (by rw[htk];exact h1c) hvl hvs h1v (vc:=c2) hgv hbne) ?_;rintro en w' ⟨rfl,cur',k1,k2,k3,k4⟩;rw[htk,htk2] at k3;exact ⟨_,_,rfl,⟨by simp only[List.length_append,List.length_take,List.length_drop,hvl,hcl];omega,.inr ⟨g,cap,cur',rfl,Nat.zero_le _,k1,hroom,hcap,k2,k3⟩⟩,hrows,k4,.inl rfl⟩
  ·refine Calls.mono (insStop_grow hg hcs hnc (by omega) hcap' hin (by omega) (by rw[htk];exact h1c) hvl hvs h1v (vc:=c2) hvw) ?_;rintro en w' ⟨c',rfl,cur',k1,⟨k5,k6⟩,k2,k3,k4⟩;rw[htk,htk2] at k3;exact ⟨_,_,rfl,⟨by simp only[List.length_append,List.length_take,List.length_drop,hvl,hcl];omega,.inr ⟨w.heap.size,c',cur',rfl,Nat.zero_le _,k1,k5,k6,k2,k3⟩⟩,hrows,⟨k4.os,k4.tape,k4.output,k4.size,fun k hk _=>k4.block k hk (by simp)⟩,.inr ⟨_,rfl,Nat.le_refl _⟩⟩
end T
end Go.Proofs.YtpocfbfmjippnaaGreat
end
section
namespace Go.Proofs.YtpocfbfmjippnaaGreat
namespace T
def z69_1:XC:=(.seq (Zg [Za 39 9,Zb 40 (.bin .geq) [Zc 39,.int .i64 0]] (.cond (Zc 40) .skip (.exit 2))) (.seq (.block 3 (Zg [Za 43 7,Za 44 2,Zb 45 (.bin .add) [Zc 44,.int .i64 1],Za 46 9,Zb 47 (.call 113) [Zc 45,Zc 46],Zb 48 (.bin .quo) [Zc 43,Zc 47],Za 49 2,Zb 50 (.bin .add) [Zc 49,.int .i64 1],Zb 51 (.bin .rem) [Zc 48,Zc 50],Za 10 51] (.clean (.seq (Zg [Za 52 10,Za 53 2,Zb 54 (.bin .eql) [Zc 52,Zc 53]] (.cond (Zc 54) (.reg false [Zb 10 .mv [.int .i64 (-1)]]) .skip)) (.reg false [Za 55 8,Za 56 10,Zb 57 (.bslice 3 Z1 1 [0]) [Zc 56],Zb 58 (.append 3 Z1 8) [Zc 55,Zc 57],Za 8 58]))))) (.clean (.reg false [Za 41 9,Zb 42 (.bin .sub) [Zc 41,.int .i64 1],Za 9 42]))))
def z69_1d:List Nat:=[8,9,10]
def z69_0:XC:=(Zg [Zb 26 (.bin .lss) [Zc 25,Zc 24]] (.seq (.cond (Zc 26) .skip (.exit 0)) (.seq (.block 1 (Zg [Za 27 25,Za 7 27] (Zg [Za 28 1,Zb 29 (.call 67) [Zc 28],Za 8 29] (.seq (Zg [Za 30 0,Zb 31 .nilck [Zc 30],Zb 32 (.faddr 8 Z9) [Zc 31],Zb 33 (.load Z9) [Zc 32],Zb 34 (.len false) [Zc 33],Za 35 1,Zb 36 (.len false) [Zc 35],Zb 37 (.bin .sub) [Zc 34,Zc 36],Zb 38 (.bin .sub) [Zc 37,.int .i64 1],Za 9 38] (.clean (.block 2 (.loop z69_1)))) (.clean (.reg false [Za 59 0,Za 60 0,Zb 61 .nilck [Zc 60],Zb 62 (.faddr 12 Z24) [Zc 61],Zb 63 (.load Z24) [Zc 62],Za 64 8,Za 65 6,Zb 66 (.build Z12 [(0,Z9),(1,Z1)]) [Zc 64,Zc 65],Zb 67 (.bslice 60 Z12 1 [0]) [Zc 66],Zb 68 (.append 60 Z12 32) [Zc 63,Zc 67],Zb 69 .nilck [Zc 59],Zb 70 (.faddr 12 Z24) [Zc 69],⟨none,.store Z24,[Zc 70,Zc 68],none,[]⟩])))))) (.reg false [Zb 71 (.bin .add) [Zc 25,.int .i64 1],Za 25 71]))))
def z69_0d:List Nat:=[7,8,9,10,25]
def z69:XF:=⟨72,[],[0,1,2,6,7,8,9,10,24,25],(Zg [Za 11 1,Zb 12 (.len false) [.t 11],Zb 13 (.bin .sub) [.t 12,.int .i64 1],Za 6 13] (Zg [Za 14 2,Zb 15 (.bin .add) [.t 14,.int .i64 1],Za 16 0,Zb 17 .nilck [.t 16],Zb 18 (.faddr 8 Z9) [.t 17],Zb 19 (.load Z9) [.t 18],Zb 20 (.len false) [.t 19],Za 21 1,Zb 22 (.len false) [.t 21],Zb 23 (.bin .sub) [.t 20,.t 22],Zb 24 (.call 113) [.t 15,.t 23],Zb 25 .mv [.int .i64 0]] (.clean (.block 0 (.loop z69_0)))))⟩
def v33_0:XC:=let i:Ty:=.int .i64;let a15:Ty:=.sl i;let a14:Ty:=.st (.cons i .bool);let a12:Ty:=.sl a14;let a13:Ty:=.st (.cons i i);let n:Ty:=.sl a13;let m:Ty:=.st (.cons i (.cons i .bool));let j:Ty:=.sl m;let k:Ty:=.st (.cons i (.cons i i));let h:Ty:=.st (.cons i (.cons i (.cons a15 a15)));let g:Ty:=.sl h;let f:Ty:=.st (.cons i (.cons a12 (.cons n a15)));let e:Ty:=.st (.cons i (.cons i (.cons i (.cons i (.cons i (.cons i (.cons i (.cons i i))))))));let d:Ty:=.sl e;let c:Ty:=.st (.cons i (.cons i (.cons i (.cons i (.cons i (.cons i (.cons i (.cons i (.cons i i)))))))));let b:Ty:=.sl c;let a:Ty:=.st (.cons i (.cons g (.cons d (.cons b (.cons j k)))));let v (d x:Nat):XO:=⟨some d,.mv,[.t x],none,[]⟩;let o (d:Nat) (p:XOp) (l:List XA):XO:=⟨some d,p,l,none,[]⟩;let u (d:Nat) (p:XOp) (l:List XA) (a:List Nat):XO:=⟨some d,p,l,none,a⟩;let t:=XA.t;(.seq (.reg false [o 31 (.bin .lss) [t 30,t 29]]) (.seq (.cond (t 31) .skip (.exit 0)) (.seq (.block 1 (.seq (.reg false [o 32 (.iaddr f) [t 28,t 30],o 33 (.load f) [t 32],o 8 (.alloc 65 f) [],⟨none,.store f,[t 8,t 33],none,[]⟩]) (.seq (.reg true [v 35 0,u 36 .nilck [t 35] [0],u 37 (.faddr 0 a) [t 36] [1,0],u 38 (.load a) [t 37] [2,1,0],o 39 (.load f) [t 8],u 40 (.call 48) [t 38,t 39] [3,2,1,0,4],u 34 .mv [t 40] [5,3,2,1,0,4],u 41 (.extract 0) [t 34] [6,5,3,2,1,0,4],u 42 (.extract 1) [t 34] [6,5,3,2,1,0,4],u 9 .mv [t 41] [7,6,5,3,2,1,0,4],u 10 .mv [t 42] [8,6,5,3,2,1,0,4,9,7]]) (.clean (.reg false [v 43 6,v 44 9,o 45 (.bin .add) [t 43,t 44],v 6 45]))))) (.reg false [o 46 (.bin .add) [t 30,.int .i64 1],v 30 46]))))
def v33_0d:List Nat:=[6,8,9,30]
def v33_1:XC:=let i:Ty:=.int .i64;let a15:Ty:=.sl i;let a14:Ty:=.st (.cons i .bool);let a12:Ty:=.sl a14;let a13:Ty:=.st (.cons i i);let n:Ty:=.sl a13;let m:Ty:=.st (.cons i (.cons i .bool));let j:Ty:=.sl m;let k:Ty:=.st (.cons i (.cons i i));let h:Ty:=.st (.cons i (.cons i (.cons a15 a15)));let g:Ty:=.sl h;let f:Ty:=.st (.cons i (.cons a12 (.cons n a15)));let e:Ty:=.st (.cons i (.cons i (.cons i (.cons i (.cons i (.cons i (.cons i (.cons i i))))))));let d:Ty:=.sl e;let c:Ty:=.st (.cons i (.cons i (.cons i (.cons i (.cons i (.cons i (.cons i (.cons i (.cons i i)))))))));let b:Ty:=.sl c;let a:Ty:=.st (.cons i (.cons g (.cons d (.cons b (.cons j k)))));let l (d:Nat) (t:Ty) (x:Nat):XO:=⟨some d,.load t,[.t x],none,[]⟩;let v (d x:Nat):XO:=⟨some d,.mv,[.t x],none,[]⟩;let o (d:Nat) (p:XOp) (l:List XA):XO:=⟨some d,p,l,none,[]⟩;let u (d:Nat) (p:XOp) (l:List XA) (a:List Nat):XO:=⟨some d,p,l,none,a⟩;let r (l:List XO) (c:XC):XC:=.seq (.reg false l) c;let t:=XA.t;(r [o 95 (.bin .lss) [t 94,t 93]] (.seq (.cond (t 95) .skip (.exit 2)) (.seq (.block 3 (r [v 96 94,o 97 (.iaddr f) [t 92,t 94],l 98 f 97,o 12 (.alloc 65 f) [],v 11 96,⟨none,.store f,[t 12,t 98],none,[]⟩] (r [v 99 1,o 100 (.call 67) [t 99],v 101 11,⟨some 102,.bslice 3 i 1 [0],[t 101],none,[]⟩,o 103 (.append 3 i 8) [t 100,t 102],v 13 103] (.clean (.seq (.reg true [v 105 0,u 106 .nilck [t 105] [0],u 107 (.faddr 0 a) [t 106] [1,0],u 108 (.load a) [t 107] [2,1,0],l 109 f 12,v 110 0,u 111 .nilck [t 110] [5],u 112 (.faddr 8 a15) [t 111] [6,5],u 113 (.load a15) [t 112] [7,6,5],v 114 1,u 115 (.len false) [t 114] [9],u 116 (.iaddr i) [t 113,t 115] [8,7,6,5,10,9],u 117 (.load i) [t 116] [11,8,7,6,5,10,9],u 118 (.call 50) [t 108,t 109,t 117] [3,2,1,0,4,12,11,8,7,6,5,10,9],u 104 .mv [t 118] [13,3,2,1,0,4,12,11,8,7,6,5,10,9],u 119 (.extract 0) [t 104] [14,13,3,2,1,0,4,12,11,8,7,6,5,10,9],u 120 (.extract 1) [t 104] [14,13,3,2,1,0,4,12,11,8,7,6,5,10,9],u 121 (.extract 2) [t 104] [14,13,3,2,1,0,4,12,11,8,7,6,5,10,9],u 122 (.extract 3) [t 104] [14,13,3,2,1,0,4,12,11,8,7,6,5,10,9],u 123 (.extract 4) [t 104] [14,13,3,2,1,0,4,12,11,8,7,6,5,10,9],o 14 (.alloc 65 f) [],⟨none,.store f,[t 14,t 119],none,[20,15,14,13,3,2,1,0,4,12,11,8,7,6,5,10,9]⟩,u 15 .mv [t 120] [16,14,13,3,2,1,0,4,12,11,8,7,6,5,10,9,21,20,15],u 16 .mv [t 121] [17,14,13,3,2,1,0,4,12,11,8,7,6,5,10,9,22,16,21,20,15],u 17 .mv [t 122] [18,14,13,3,2,1,0,4,12,11,8,7,6,5,10,9,23,17,22,16,21,20,15],u 18 .mv [t 123] [19,14,13,3,2,1,0,4,12,11,8,7,6,5,10,9,24,18,23,17,22,16,21,20,15]]) (.clean (.seq (r [v 124 18,o 125 (.bin .neq) [t 124,.int .i64 0]] (.cond (t 125) (.seq (.icall false [v 126 0,v 127 13,v 128 2,o 129 (.len false) [t 128]] ⟨some 130,.callv,[.fn 69,t 126,t 127,t 129],none,[]⟩ [] 69 z69.n z69.res z69.kv z69.code) (.exit 3)) .skip)) (.clean (r [v 131 2,o 132 (.call 68) [t 131],v 19 132] (r [v 133 19,v 134 11,l 135 f 14,o 136 (.iaddr f) [t 133,t 134],⟨none,.store f,[t 136,t 135],none,[]⟩] (.top (.clean (.reg false [v 137 0,v 138 13,v 139 19,o 140 (.call 33) [t 137,t 138,t 139]]))))))))))))) (.reg false [o 141 (.bin .add) [t 94,.int .i64 1],v 94 141]))))
def v33:XF:=let i:Ty:=.int .i64;let g:Ty:=.sl i;let f:Ty:=.st (.cons i .bool);let d:Ty:=.sl f;let e:Ty:=.st (.cons i i);let c:Ty:=.sl e;let b:Ty:=.st (.cons i (.cons d (.cons c g)));let a:Ty:=.sl b;let s (t:Ty) (x y:Nat):XO:=⟨none,.store t,[.t x,.t y],none,[]⟩;let v (d x:Nat):XO:=⟨some d,.mv,[.t x],none,[]⟩;let o (d:Nat) (p:XOp) (l:List XA):XO:=⟨some d,p,l,none,[]⟩;let w (d:Nat) (p:XOp) (l:List XA) (j t:Nat) (b:Bool):XO:=⟨some d,p,l,some (j,t,b),[]⟩;let r (l:List XO) (c:XC):XC:=.seq (.reg false l) c;let t:=XA.t;⟨149,[],[0,1,2,6,8,9,11,12,13,14,18,19,28,29,30,92,93,94],(.seq (r [v 20 1,o 21 (.len false) [t 20],v 22 0,o 23 .nilck [t 22],o 24 (.faddr 8 g) [t 23],o 25 (.load g) [t 24],o 26 (.len false) [t 25],o 27 (.bin .eql) [t 21,t 26]] (.top (.cond (t 27) (r [o 6 .mv [.int .i64 0]] (.seq (r [v 28 2,o 29 (.len false) [t 28],o 30 .mv [.int .i64 0]] (.block 0 (.loop v33_0))) (.clean (.seq (r [v 47 0,o 48 .nilck [t 47],o 49 (.faddr 9 g) [t 48],o 50 (.load g) [t 49],o 51 (.isnilk false i) [t 50],v 52 51,w 53 .mv [t 1] 5 52 false,w 54 .mv [t 0] 5 52 false,w 55 .nilck [t 54] 5 52 false,w 56 (.faddr 9 g) [t 55] 5 52 false,w 57 (.load g) [t 56] 5 52 false,w 58 (.call 36) [t 53,t 57] 5 52 false,w 59 (.bin .lss) [t 58,.int .i64 0] 5 52 false,o 60 .pick [t 52,.bool true,t 59],v 61 60,w 62 .mv [t 1] 14 61 false,w 63 .mv [t 0] 14 61 false,w 64 .nilck [t 63] 14 61 false,w 65 (.faddr 9 g) [t 64] 14 61 false,w 66 (.load g) [t 65] 14 61 false,w 67 (.call 36) [t 62,t 66] 14 61 false,w 68 (.bin .eql) [t 67,.int .i64 0] 14 61 false,w 69 .mv [t 68] 14 61 false,w 70 .mv [t 6] 22 69 true,w 71 .mv [t 0] 22 69 true,w 72 .nilck [t 71] 22 69 true,w 73 (.faddr 11 i) [t 72] 22 69 true,w 74 (.load i) [t 73] 22 69 true,w 75 (.bin .lss) [t 70,t 74] 22 69 true,w 76 .pick [t 69,t 75,.bool false] 14 61 false,o 77 .pick [t 61,.bool true,t 76]] (.cond (t 77) (.reg false [v 78 0,v 79 0,v 80 0,v 81 1,o 82 (.calld 67) [t 81],v 83 2,o 84 (.calld 68) [t 83],v 85 6,o 86 .nilck [t 78],o 87 (.faddr 9 g) [t 86],s g 87 82,o 88 .nilck [t 79],o 89 (.faddr 10 a) [t 88],s a 89 84,o 90 .nilck [t 80],o 91 (.faddr 11 i) [t 90],s i 91 85]) .skip)) .ret)))) .skip))) (.clean (.seq (r [v 92 2,o 93 (.len false) [t 92],o 94 .mv [.int .i64 0]] (.block 2 (.loop v33_1))) (.clean (.reg false [v 142 0,v 143 1,o 144 (.call 67) [t 143],⟨some 145,.bslice 3 i 1 [0],[.int .i64 (-1)],none,[]⟩,o 146 (.append 3 i 8) [t 144,t 145],v 147 2,o 148 (.call 33) [t 142,t 146,t 147]])))))⟩
def w33_0:XC:=let i:Ty:=.int .i64;let a15:Ty:=.sl i;let a14:Ty:=.st (.cons i .bool);let a12:Ty:=.sl a14;let a13:Ty:=.st (.cons i i);let n:Ty:=.sl a13;let m:Ty:=.st (.cons i (.cons i .bool));let j:Ty:=.sl m;let k:Ty:=.st (.cons i (.cons i i));let h:Ty:=.st (.cons i (.cons i (.cons a15 a15)));let g:Ty:=.sl h;let f:Ty:=.st (.cons i (.cons a12 (.cons n a15)));let e:Ty:=.st (.cons i (.cons i (.cons i (.cons i (.cons i (.cons i (.cons i (.cons i i))))))));let d:Ty:=.sl e;let c:Ty:=.st (.cons i (.cons i (.cons i (.cons i (.cons i (.cons i (.cons i (.cons i (.cons i i)))))))));let b:Ty:=.sl c;let a:Ty:=.st (.cons i (.cons g (.cons d (.cons b (.cons j k)))));let v (d x:Nat):XO:=⟨some d,.mv,[.t x],none,[]⟩;let o (d:Nat) (p:XOp) (l:List XA):XO:=⟨some d,p,l,none,[]⟩;let u (d:Nat) (p:XOp) (l:List XA) (a:List Nat):XO:=⟨some d,p,l,none,a⟩;let t:=XA.t;(.seq (.reg false [o 31 (.bin .lss) [t 30,t 29]]) (.seq (.cond (t 31) .skip (.exit 0)) (.seq (.block 1 (.seq (.reg false [o 32 (.iaddr f) [t 28,t 30],o 33 (.load f) [t 32],o 8 (.alloc 65 f) [],⟨none,.store f,[t 8,t 33],none,[]⟩]) (.seq (.reg true [v 35 0,u 36 .nilck [t 35] [0],u 37 (.faddr 0 a) [t 36] [1,0],u 38 (.load a) [t 37] [2,1,0],o 39 (.load f) [t 8],u 40 (.call 48) [t 38,t 39] [3,2,1,0,4],u 34 .mv [t 40] [5,3,2,1,0,4],u 41 (.extract 0) [t 34] [6,5,3,2,1,0,4],u 42 (.extract 1) [t 34] [6,5,3,2,1,0,4],u 9 .mv [t 41] [7,6,5,3,2,1,0,4],u 10 .mv [t 42] [8,6,5,3,2,1,0,4,9,7]]) (.clean (.reg false [v 43 6,v 44 9,o 45 (.bin .add) [t 43,t 44],v 6 45]))))) (.reg false [o 46 (.bin .add) [t 30,.int .i64 1],v 30 46]))))
def w33_0d:List Nat:=[6,8,9,30]
def w33_1:XC:=let i:Ty:=.int .i64;let a15:Ty:=.sl i;let a14:Ty:=.st (.cons i .bool);let a12:Ty:=.sl a14;let a13:Ty:=.st (.cons i i);let n:Ty:=.sl a13;let m:Ty:=.st (.cons i (.cons i .bool));let j:Ty:=.sl m;let k:Ty:=.st (.cons i (.cons i i));let h:Ty:=.st (.cons i (.cons i (.cons a15 a15)));let g:Ty:=.sl h;let f:Ty:=.st (.cons i (.cons a12 (.cons n a15)));let e:Ty:=.st (.cons i (.cons i (.cons i (.cons i (.cons i (.cons i (.cons i (.cons i i))))))));let d:Ty:=.sl e;let c:Ty:=.st (.cons i (.cons i (.cons i (.cons i (.cons i (.cons i (.cons i (.cons i (.cons i i)))))))));let b:Ty:=.sl c;let a:Ty:=.st (.cons i (.cons g (.cons d (.cons b (.cons j k)))));let l (d:Nat) (t:Ty) (x:Nat):XO:=⟨some d,.load t,[.t x],none,[]⟩;let v (d x:Nat):XO:=⟨some d,.mv,[.t x],none,[]⟩;let o (d:Nat) (p:XOp) (l:List XA):XO:=⟨some d,p,l,none,[]⟩;let u (d:Nat) (p:XOp) (l:List XA) (a:List Nat):XO:=⟨some d,p,l,none,a⟩;let r (l:List XO) (c:XC):XC:=.seq (.reg false l) c;let t:=XA.t;(r [o 95 (.bin .lss) [t 94,t 93]] (.seq (.cond (t 95) .skip (.exit 2)) (.seq (.block 3 (r [v 96 94,o 97 (.iaddr f) [t 92,t 94],l 98 f 97,o 12 (.alloc 65 f) [],v 11 96,⟨none,.store f,[t 12,t 98],none,[]⟩] (r [v 99 1,o 100 (.call 67) [t 99],v 101 11,⟨some 102,.bslice 3 i 1 [0],[t 101],none,[]⟩,o 103 (.append 3 i 8) [t 100,t 102],v 13 103] (.clean (.seq (.reg true [v 105 0,u 106 .nilck [t 105] [0],u 107 (.faddr 0 a) [t 106] [1,0],u 108 (.load a) [t 107] [2,1,0],l 109 f 12,v 110 0,u 111 .nilck [t 110] [5],u 112 (.faddr 8 a15) [t 111] [6,5],u 113 (.load a15) [t 112] [7,6,5],v 114 1,u 115 (.len false) [t 114] [9],u 116 (.iaddr i) [t 113,t 115] [8,7,6,5,10,9],u 117 (.load i) [t 116] [11,8,7,6,5,10,9],u 118 (.call 50) [t 108,t 109,t 117] [3,2,1,0,4,12,11,8,7,6,5,10,9],u 104 .mv [t 118] [13,3,2,1,0,4,12,11,8,7,6,5,10,9],u 119 (.extract 0) [t 104] [14,13,3,2,1,0,4,12,11,8,7,6,5,10,9],u 120 (.extract 1) [t 104] [14,13,3,2,1,0,4,12,11,8,7,6,5,10,9],u 121 (.extract 2) [t 104] [14,13,3,2,1,0,4,12,11,8,7,6,5,10,9],u 122 (.extract 3) [t 104] [14,13,3,2,1,0,4,12,11,8,7,6,5,10,9],u 123 (.extract 4) [t 104] [14,13,3,2,1,0,4,12,11,8,7,6,5,10,9],o 14 (.alloc 65 f) [],⟨none,.store f,[t 14,t 119],none,[20,15,14,13,3,2,1,0,4,12,11,8,7,6,5,10,9]⟩,u 15 .mv [t 120] [16,14,13,3,2,1,0,4,12,11,8,7,6,5,10,9,21,20,15],u 16 .mv [t 121] [17,14,13,3,2,1,0,4,12,11,8,7,6,5,10,9,22,16,21,20,15],u 17 .mv [t 122] [18,14,13,3,2,1,0,4,12,11,8,7,6,5,10,9,23,17,22,16,21,20,15],u 18 .mv [t 123] [19,14,13,3,2,1,0,4,12,11,8,7,6,5,10,9,24,18,23,17,22,16,21,20,15]]) (.clean (.seq (r [v 124 18,o 125 (.bin .neq) [t 124,.int .i64 0]] (.cond (t 125) (.seq (.icall false [v 126 0,v 127 13,v 128 2,o 129 (.len false) [t 128]] ⟨some 130,.callv,[.fn 69,t 126,t 127,t 129],none,[]⟩ [] 69 z69.n z69.res z69.kv z69.code) (.exit 3)) .skip)) (.clean (r [v 131 2,o 132 (.call 68) [t 131],v 19 132] (r [v 133 19,v 134 11,l 135 f 14,o 136 (.iaddr f) [t 133,t 134],⟨none,.store f,[t 136,t 135],none,[]⟩] (.top (.clean (.icall false [v 137 0,v 138 13,v 139 19] ⟨some 140,.callv,[.fn 33,t 137,t 138,t 139],none,[]⟩ [] 33 v33.n v33.res v33.kv v33.code))))))))))))) (.reg false [o 141 (.bin .add) [t 94,.int .i64 1],v 94 141]))))
def w33_1d:List Nat:=[11,12,13,14,18,19,94]
def w33_t:XC:=let i:Ty:=.int .i64;let g:Ty:=.sl i;let f:Ty:=.st (.cons i .bool);let d:Ty:=.sl f;let e:Ty:=.st (.cons i i);let c:Ty:=.sl e;let b:Ty:=.st (.cons i (.cons d (.cons c g)));let a:Ty:=.sl b;let s (t:Ty) (x y:Nat):XO:=⟨none,.store t,[.t x,.t y],none,[]⟩;let v (d x:Nat):XO:=⟨some d,.mv,[.t x],none,[]⟩;let o (d:Nat) (p:XOp) (l:List XA):XO:=⟨some d,p,l,none,[]⟩;let w (d:Nat) (p:XOp) (l:List XA) (j t:Nat) (b:Bool):XO:=⟨some d,p,l,some (j,t,b),[]⟩;let r (l:List XO) (c:XC):XC:=.seq (.reg false l) c;let t:=XA.t;(.seq (r [v 20 1,o 21 (.len false) [t 20],v 22 0,o 23 .nilck [t 22],o 24 (.faddr 8 g) [t 23],o 25 (.load g) [t 24],o 26 (.len false) [t 25],o 27 (.bin .eql) [t 21,t 26]] (.top (.cond (t 27) (r [o 6 .mv [.int .i64 0]] (.seq (r [v 28 2,o 29 (.len false) [t 28],o 30 .mv [.int .i64 0]] (.block 0 (.loop w33_0))) (.clean (.seq (r [v 47 0,o 48 .nilck [t 47],o 49 (.faddr 9 g) [t 48],o 50 (.load g) [t 49],o 51 (.isnilk false i) [t 50],v 52 51,w 53 .mv [t 1] 5 52 false,w 54 .mv [t 0] 5 52 false,w 55 .nilck [t 54] 5 52 false,w 56 (.faddr 9 g) [t 55] 5 52 false,w 57 (.load g) [t 56] 5 52 false,w 58 (.call 36) [t 53,t 57] 5 52 false,w 59 (.bin .lss) [t 58,.int .i64 0] 5 52 false,o 60 .pick [t 52,.bool true,t 59],v 61 60,w 62 .mv [t 1] 14 61 false,w 63 .mv [t 0] 14 61 false,w 64 .nilck [t 63] 14 61 false,w 65 (.faddr 9 g) [t 64] 14 61 false,w 66 (.load g) [t 65] 14 61 false,w 67 (.call 36) [t 62,t 66] 14 61 false,w 68 (.bin .eql) [t 67,.int .i64 0] 14 61 false,w 69 .mv [t 68] 14 61 false,w 70 .mv [t 6] 22 69 true,w 71 .mv [t 0] 22 69 true,w 72 .nilck [t 71] 22 69 true,w 73 (.faddr 11 i) [t 72] 22 69 true,w 74 (.load i) [t 73] 22 69 true,w 75 (.bin .lss) [t 70,t 74] 22 69 true,w 76 .pick [t 69,t 75,.bool false] 14 61 false,o 77 .pick [t 61,.bool true,t 76]] (.cond (t 77) (.reg false [v 78 0,v 79 0,v 80 0,v 81 1,o 82 (.calld 67) [t 81],v 83 2,o 84 (.calld 68) [t 83],v 85 6,o 86 .nilck [t 78],o 87 (.faddr 9 g) [t 86],s g 87 82,o 88 .nilck [t 79],o 89 (.faddr 10 a) [t 88],s a 89 84,o 90 .nilck [t 80],o 91 (.faddr 11 i) [t 90],s i 91 85]) .skip)) .ret)))) .skip))) (.clean (.seq (r [v 92 2,o 93 (.len false) [t 92],o 94 .mv [.int .i64 0]] (.block 2 (.loop w33_1))) (.clean (.icall false [v 142 0,v 143 1,o 144 (.call 67) [t 143],⟨some 145,.bslice 3 i 1 [0],[.int .i64 (-1)],none,[]⟩,o 146 (.append 3 i 8) [t 144,t 145],v 147 2] ⟨some 148,.callv,[.fn 33,t 142,t 146,t 147],none,[]⟩ [] 33 v33.n v33.res v33.kv v33.code)))))
def w33:XF:=⟨149,[],[0,1,2,6,8,9,11,12,13,14,18,19,28,29,30,92,93,94],.top w33_t⟩
def z33_0:XC:=(Zg [Zb 31 (.bin .lss) [Zc 30,Zc 29]] (.seq (.cond (Zc 31) .skip (.exit 0)) (.seq (.block 1 (Zg [Zb 32 (.iaddr Z11) [Zc 28,Zc 30],Zb 33 (.load Z11) [Zc 32],Zb 8 (.alloc 65 Z11) [],⟨none,.store Z11,[Zc 8,Zc 33],none,[]⟩] (.seq (.reg true [Za 35 0,Zf 36 .nilck [Zc 35] [0],Zf 37 (.faddr 0 Z23) [Zc 36] [1,0],Zf 38 (.load Z23) [Zc 37] [2,1,0],Zb 39 (.load Z11) [Zc 8],Zf 40 (.call 48) [Zc 38,Zc 39] [3,2,1,0,4],Zf 34 .mv [Zc 40] [5,3,2,1,0,4],Zf 41 (.extract 0) [Zc 34] [6,5,3,2,1,0,4],Zf 42 (.extract 1) [Zc 34] [6,5,3,2,1,0,4],Zf 9 .mv [Zc 41] [7,6,5,3,2,1,0,4],Zf 10 .mv [Zc 42] [8,6,5,3,2,1,0,4,9,7]]) (.clean (.reg false [Za 43 6,Za 44 9,Zb 45 (.bin .add) [Zc 43,Zc 44],Za 6 45]))))) (.reg false [Zb 46 (.bin .add) [Zc 30,.int .i64 1],Za 30 46]))))
def z33_0d:List Nat:=[6,8,9,30]
def z33_1:XC:=(Zg [Zb 95 (.bin .lss) [Zc 94,Zc 93]] (.seq (.cond (Zc 95) .skip (.exit 2)) (.seq (.block 3 (Zg [Za 96 94,Zb 97 (.iaddr Z11) [Zc 92,Zc 94],Zd 98 Z11 97,Zb 12 (.alloc 65 Z11) [],Za 11 96,⟨none,.store Z11,[Zc 12,Zc 98],none,[]⟩] (Zg [Za 99 1,Zb 100 (.call 67) [Zc 99],Za 101 11,Zb 102 (.bslice 3 Z1 1 [0]) [Zc 101],Zb 103 (.append 3 Z1 8) [Zc 100,Zc 102],Za 13 103] (.clean (.seq (.reg true [Za 105 0,Zf 106 .nilck [Zc 105] [0],Zf 107 (.faddr 0 Z23) [Zc 106] [1,0],Zf 108 (.load Z23) [Zc 107] [2,1,0],Zd 109 Z11 12,Za 110 0,Zf 111 .nilck [Zc 110] [5],Zf 112 (.faddr 8 Z9) [Zc 111] [6,5],Zf 113 (.load Z9) [Zc 112] [7,6,5],Za 114 1,Zf 115 (.len false) [Zc 114] [9],Zf 116 (.iaddr Z1) [Zc 113,Zc 115] [8,7,6,5,10,9],Zf 117 (.load Z1) [Zc 116] [11,8,7,6,5,10,9],Zf 118 (.call 50) [Zc 108,Zc 109,Zc 117] [3,2,1,0,4,12,11,8,7,6,5,10,9],Zf 104 .mv [Zc 118] [13,3,2,1,0,4,12,11,8,7,6,5,10,9],Zf 119 (.extract 0) [Zc 104] [14,13,3,2,1,0,4,12,11,8,7,6,5,10,9],Zf 120 (.extract 1) [Zc 104] [14,13,3,2,1,0,4,12,11,8,7,6,5,10,9],Zf 121 (.extract 2) [Zc 104] [14,13,3,2,1,0,4,12,11,8,7,6,5,10,9],Zf 122 (.extract 3) [Zc 104] [14,13,3,2,1,0,4,12,11,8,7,6,5,10,9],Zf 123 (.extract 4) [Zc 104] [14,13,3,2,1,0,4,12,11,8,7,6,5,10,9],Zb 14 (.alloc 65 Z11) [],⟨none,.store Z11,[Zc 14,Zc 119],none,[20,15,14,13,3,2,1,0,4,12,11,8,7,6,5,10,9]⟩,Zf 15 .mv [Zc 120] [16,14,13,3,2,1,0,4,12,11,8,7,6,5,10,9,21,20,15],Zf 16 .mv [Zc 121] [17,14,13,3,2,1,0,4,12,11,8,7,6,5,10,9,22,16,21,20,15],Zf 17 .mv [Zc 122] [18,14,13,3,2,1,0,4,12,11,8,7,6,5,10,9,23,17,22,16,21,20,15],Zf 18 .mv [Zc 123] [19,14,13,3,2,1,0,4,12,11,8,7,6,5,10,9,24,18,23,17,22,16,21,20,15]]) (.clean (.seq (Zg [Za 124 18,Zb 125 (.bin .neq) [Zc 124,.int .i64 0]] (.cond (Zc 125) (.seq (.icall false [Za 126 0,Za 127 13,Za 128 2,Zb 129 (.len false) [Zc 128]] (Zb 130 .callv [.fn 69,Zc 126,Zc 127,Zc 129]) [] 69 z69.n z69.res z69.kv z69.code) (.exit 3)) .skip)) (.clean (Zg [Za 131 2,Zb 132 (.call 68) [Zc 131],Za 19 132] (Zg [Za 133 19,Za 134 11,Zd 135 Z11 14,Zb 136 (.iaddr Z11) [Zc 133,Zc 134],⟨none,.store Z11,[Zc 136,Zc 135],none,[]⟩] (.top (.clean (.icall false [Za 137 0,Za 138 13,Za 139 19] (Zb 140 .callv [.fn 33,Zc 137,Zc 138,Zc 139]) [] 33 w33.n w33.res w33.kv w33.code))))))))))))) (.reg false [Zb 141 (.bin .add) [Zc 94,.int .i64 1],Za 94 141]))))
def z33_1d:List Nat:=[11,12,13,14,18,19,94]
def z33:XF:=⟨149,[],[0,1,2,6,8,9,11,12,13,14,18,19,28,29,30,92,93,94],(.seq (Zg [Za 20 1,Zb 21 (.len false) [Zc 20],Za 22 0,Zb 23 .nilck [Zc 22],Zb 24 (.faddr 8 Z9) [Zc 23],Zb 25 (.load Z9) [Zc 24],Zb 26 (.len false) [Zc 25],Zb 27 (.bin .eql) [Zc 21,Zc 26]] (.top (.cond (Zc 27) (Zg [Zb 6 .mv [.int .i64 0]] (.seq (Zg [Za 28 2,Zb 29 (.len false) [Zc 28],Zb 30 .mv [.int .i64 0]] (.block 0 (.loop z33_0))) (.clean (.seq (Zg [Za 47 0,Zb 48 .nilck [Zc 47],Zb 49 (.faddr 9 Z9) [Zc 48],Zb 50 (.load Z9) [Zc 49],Zb 51 (.isnilk false Z1) [Zc 50],Za 52 51,Ze 53 .mv [Zc 1] 5 52 false,Ze 54 .mv [Zc 0] 5 52 false,Ze 55 .nilck [Zc 54] 5 52 false,Ze 56 (.faddr 9 Z9) [Zc 55] 5 52 false,Ze 57 (.load Z9) [Zc 56] 5 52 false,Ze 58 (.call 36) [Zc 53,Zc 57] 5 52 false,Ze 59 (.bin .lss) [Zc 58,.int .i64 0] 5 52 false,Zb 60 .pick [Zc 52,.bool true,Zc 59],Za 61 60,Ze 62 .mv [Zc 1] 14 61 false,Ze 63 .mv [Zc 0] 14 61 false,Ze 64 .nilck [Zc 63] 14 61 false,Ze 65 (.faddr 9 Z9) [Zc 64] 14 61 false,Ze 66 (.load Z9) [Zc 65] 14 61 false,Ze 67 (.call 36) [Zc 62,Zc 66] 14 61 false,Ze 68 (.bin .eql) [Zc 67,.int .i64 0] 14 61 false,Ze 69 .mv [Zc 68] 14 61 false,Ze 70 .mv [Zc 6] 22 69 true,Ze 71 .mv [Zc 0] 22 69 true,Ze 72 .nilck [Zc 71] 22 69 true,Ze 73 (.faddr 11 Z1) [Zc 72] 22 69 true,Ze 74 (.load Z1) [Zc 73] 22 69 true,Ze 75 (.bin .lss) [Zc 70,Zc 74] 22 69 true,Ze 76 .pick [Zc 69,Zc 75,.bool false] 14 61 false,Zb 77 .pick [Zc 61,.bool true,Zc 76]] (.cond (Zc 77) (.reg false [Za 78 0,Za 79 0,Za 80 0,Za 81 1,Zb 82 (.calld 67) [Zc 81],Za 83 2,Zb 84 (.calld 68) [Zc 83],Za 85 6,Zb 86 .nilck [Zc 78],Zb 87 (.faddr 9 Z9) [Zc 86],Zi Z9 87 82,Zb 88 .nilck [Zc 79],Zb 89 (.faddr 10 Z25) [Zc 88],Zi Z25 89 84,Zb 90 .nilck [Zc 80],Zb 91 (.faddr 11 Z1) [Zc 90],Zi Z1 91 85]) .skip)) .ret)))) .skip))) (.clean (.seq (Zg [Za 92 2,Zb 93 (.len false) [Zc 92],Zb 94 .mv [.int .i64 0]] (.block 2 (.loop z33_1))) (.clean (.icall false [Za 142 0,Za 143 1,Zb 144 (.call 67) [Zc 143],Zb 145 (.bslice 3 Z1 1 [0]) [.int .i64 (-1)],Zb 146 (.append 3 Z1 8) [Zc 144,Zc 145],Za 147 2] (Zb 148 .callv [.fn 33,Zc 142,Zc 146,Zc 147]) [] 33 w33.n w33.res w33.kv w33.code)))))⟩
def z35:XF:=⟨12,[.tmp 3],[0,1,2,3],(Zg [Zf 2 (.box 60) [.t 0] [],Zf 3 .mv [.bool false] []] (.seq (.reg true [Zf 4 (.faddr 0 Z9) [.t 2] [],Zf 5 (.load Z9) [.t 4] [0],Zf 6 (.load Z27) [.t 1] [],Zf 7 .nilck [.t 6] [2],Zf 8 (.faddr 9 Z9) [.t 7] [3,2],Zf 9 (.load Z9) [.t 8] [4,3,2],Zf 10 (.call 36) [.t 5,.t 9] [1,0,5,4,3,2],Zf 11 (.bin .geq) [.t 10,.int .i64 0] [6,1,0,5,4,3,2],Zf 3 .mv [.t 11] [7,6,1,0,5,4,3,2]]) .ret))⟩
def z70_0:XC:=(Zg [Zb 9 (.bin .lss) [.t 8,.t 7]] (.seq (.cond (.t 9) .skip (.exit 0)) (.seq (.block 1 (Zg [Za 10 8,Za 5 10] (.seq (.icall false [Za 11 1,Za 12 0,Za 13 5,Zb 14 (.iaddr Z12) [.t 12,.t 13],Zb 15 (.load Z12) [.t 14]] (Zb 16 .callv [.t 11,.t 15]) [] 35 z35.n z35.res z35.kv z35.code) (.cond (.t 16) (Zg [Za 17 5,Za 4 17] .ret) .skip)))) (.reg false [Zb 18 (.bin .add) [.t 8,.int .i64 1],Za 8 18]))))
def z70_0d:List Nat:=[4,5,8]
def z70:XF:=⟨19,[.tmp 4],[0,1,4,5,7,8],(Zg [Zb 4 .mv [.int .i64 0]] (.seq (Zg [Zb 6 .mv [.t 0],Zb 7 (.len false) [.t 6],Zb 8 .mv [.int .i64 0]] (.block 0 (.loop z70_0))) (Zg [Zb 4 .mv [.int .i64 (-1)]] .ret)))⟩
def z34_0:XC:=(.seq (Zg [Za 16 6,Za 17 0,Zb 18 (.len false) [Zc 17],Zb 19 (.bin .lss) [Zc 16,Zc 18]] (.cond (Zc 19) .skip (.exit 0))) (.seq (.block 1 (Zg [Za 22 0,Za 23 6,Zb 24 (.iaddr Z12) [Zc 22,Zc 23],Zd 25 Z12 24,Zb 7 (.alloc 60 Z12) [],⟨none,.store Z12,[Zc 7,Zc 25],none,[]⟩] (.seq (.icall false [Za 26 1,Zd 27 Z12 7] (Zb 28 .callv [Zc 26,Zc 27]) [Zb 29 .not [Zc 28]] 35 z35.n z35.res z35.kv z35.code) (.cond (Zc 29) (Zg [Za 30 0,Za 31 5,Zd 32 Z12 7,Zb 33 (.iaddr Z12) [Zc 30,Zc 31],⟨none,.store Z12,[Zc 33,Zc 32],none,[]⟩] (.reg false [Za 34 5,Zb 35 (.bin .add) [Zc 34,.int .i64 1],Za 5 35])) .skip)))) (.clean (.reg false [Za 20 6,Zb 21 (.bin .add) [Zc 20,.int .i64 1],Za 6 21]))))
def z34_0d:List Nat:=[5,6,7]
def z34:XF:=⟨42,[.tmp 4],[0,1,4,5,6,7],(Zg [Zb 4 (.nilrow 60 Z12) []] (.seq (.icall false [Za 8 0,Za 9 1] (Zb 10 .callv [.fn 70,.t 8,.t 9]) [Za 5 10] 70 z70.n z70.res z70.kv z70.code) (.seq (Zg [Za 11 5,Zb 12 (.bin .eql) [.t 11,.int .i64 (-1)]] (.cond (.t 12) (Zg [Za 13 0,Za 4 13] .ret) .skip)) (.seq (Zg [Za 14 5,Zb 15 (.bin .add) [.t 14,.int .i64 1],Za 6 15] (.block 0 (.loop z34_0))) (.clean (Zg [Za 36 0,Za 37 5,Zb 38 (.slice Z12 true false true) [.t 36,.t 37],⟨none,.clear 60 Z12,[.t 38],none,[]⟩] (Zg [Za 39 0,Za 40 5,Zb 41 (.slice Z12 false true false) [.t 39,.t 40],Za 4 41] .ret)))))))⟩
def z9_0:XC:=(Zg [Zb 49 (.bin .lss) [.t 48,.t 47]] (.seq (.cond (.t 49) .skip (.exit 0)) (.seq (.block 1 (Zg [Za 50 48,Zb 51 (.iaddr Z1) [.t 46,.t 48],Zb 52 (.load Z1) [.t 51],Za 15 50,Za 16 52] (Zg [Za 53 16,Zb 54 (.bin .lss) [.t 53,.int .i64 0]] (.cond (.t 54) (.reg false [Za 55 14,Za 56 3,Za 57 15,Zb 58 (.iaddr Z1) [.t 56,.t 57],Zb 59 (.load Z1) [.t 58],Zb 60 (.bslice 3 Z1 1 [0]) [.t 59],Zb 61 (.append 3 Z1 8) [.t 55,.t 60],Za 14 61]) .skip)))) (.reg false [Zb 62 (.bin .add) [.t 48,.int .i64 1],Za 48 62]))))
def z9_0d:List Nat:=[14,15,16,48]
def z9_r:XC:=let i:Ty:=.int .i64;let a20:Ty:=.sl i;let a19:Ty:=.st (.cons i .bool);let a17:Ty:=.sl a19;let a18:Ty:=.st (.cons i i);let a15:Ty:=.sl a18;let a16:Ty:=.st (.cons a20 i);let a14:Ty:=.sl a16;let a13:Ty:=.st (.cons i (.cons i .bool));let n:Ty:=.sl a13;let a12:Ty:=.st (.cons i (.cons i i));let m:Ty:=.st (.cons i (.cons i (.cons a20 a20)));let k:Ty:=.sl m;let j:Ty:=.st (.cons i (.cons a17 (.cons a15 a20)));let h:Ty:=.sl j;let g:Ty:=.st (.cons i (.cons i (.cons i (.cons i (.cons i (.cons i (.cons i (.cons i i))))))));let f:Ty:=.sl g;let e:Ty:=.st (.cons i (.cons i (.cons i (.cons i (.cons i (.cons i (.cons i (.cons i (.cons i i)))))))));let d:Ty:=.sl e;let c:Ty:=.st (.cons i (.cons k (.cons f (.cons d (.cons n a12)))));let b:Ty:=.st (.cons c (.cons a20 (.cons a20 (.cons h (.cons i a14)))));let a:Ty:=.ptr b;let l (d:Nat) (t:Ty) (x:Nat):XO:=⟨some d,.load t,[.t x],none,[]⟩;let v (d x:Nat):XO:=⟨some d,.mv,[.t x],none,[]⟩;let o (d:Nat) (p:XOp) (l:List XA):XO:=⟨some d,p,l,none,[]⟩;(.seq (.reg false [o 14 (.nilrow 3 i) []]) (.seq (.seq (.reg false [l 43 a 13,o 44 .nilck [.t 43],o 45 (.faddr 9 a20) [.t 44],l 46 a20 45,o 47 (.len false) [.t 46],o 48 .mv [.int .i64 0]]) (.clean (.block 0 (.loop z9_0)))) (.clean (.seq (.icall false [l 63 a 13,o 64 .nilck [.t 63],o 65 (.faddr 12 a14) [.t 64],l 66 a14 65,o 67 (.mkfn 35) [.t 13]] ⟨some 68,.callv,[.fn 34,.t 66,.t 67],none,[]⟩ [v 17 68] 34 z34.n z34.res z34.kv z34.code) (.clean (.seq (.reg false [l 69 a 13,o 70 .nilck [.t 69],o 71 (.faddr 10 h) [.t 70],l 72 h 71,o 73 (.call 37) [.t 72],v 74 14,v 75 17,v 8 73,v 9 74,v 10 75,o 11 .mv [.int .i64 0]]) .ret))))))
def z9:XF:=⟨76,[.tmp 8,.tmp 9,.tmp 10,.tmp 11],[0,1,2,3,4,8,9,10,11,12,13,14,15,16,17,46,47,48,38],(Zg [Zb 4 (.box 39) [Zc 0],Zb 8 (.nilrow 65 Z11) [],Zb 9 (.nilrow 3 Z1) [],Zb 10 (.nilrow 60 Z12) [],Zb 11 .mv [.int .i64 0]] (.seq (Zg [Zd 18 Z23 4,Za 19 1,Za 20 2,Za 21 3,Zb 22 (.call 31) [Zc 18,Zc 19,Zc 20,Zc 21],Zb 23 .not [Zc 22]] (.cond (Zc 23) (Zg [Zb 8 (.nilrow 65 Z11) [],Zb 9 (.nilrow 3 Z1) [],Zb 10 (.nilrow 60 Z12) [],Zb 11 .mv [.int .i64 1]] .ret) .skip)) (.clean (Zg [Za 24 1,Za 25 2,Zb 26 (.call 32) [Zc 24,Zc 25],Za 12 26] (.seq (Zg [Za 27 3,Zb 28 (.len false) [Zc 27],Zb 29 (.bin .gtr) [Zc 28,.int .i64 4],Za 30 29,⟨some 31,.mv,[Zc 12],some (3,30,false),[]⟩,⟨some 32,.len false,[Zc 31],some (3,30,false),[]⟩,⟨some 33,.bin .gtr,[Zc 32,.int .i64 3],some (3,30,false),[]⟩,Zb 34 .pick [Zc 30,.bool true,Zc 33]] (.cond (Zc 34) (Zg [Zb 8 (.nilrow 65 Z11) [],Zb 9 (.nilrow 3 Z1) [],Zb 10 (.nilrow 60 Z12) [],Zb 11 .mv [.int .i64 6]] .ret) .skip)) (.clean (Zg [Zd 35 Z23 4,Za 36 3,Zb 37 (.build Z26 [(0,Z23),(8,Z9)]) [Zc 35,Zc 36],Zb 38 (.box 78) [Zc 37],Zb 13 (.allocz 76 0) [],⟨none,.store Z27,[Zc 13,Zc 38],none,[]⟩] (.top (.clean (.seq (.icall false [Zd 39 Z27 13,Zb 40 (.bslice 3 Z1 0 []) [],Za 41 12] (Zb 42 .callv [.fn 33,Zc 39,Zc 40,Zc 41]) [] 33 z33.n z33.res z33.kv z33.code) (.top (.clean z9_r))))))))))))⟩
def z16:XF:=⟨52,[.tmp 14],[0,1,2,3,4,5,6,7,14,15,16,17,18,19,20],(Zg [Zb 7 (.box 39) [Zc 0],Zb 14 .mv [.int .i64 0]] (Zg [Zb 22 (.load Z23) [Zc 7],Za 23 1,Za 24 2,Za 25 3,Zb 26 (.call 9) [Zc 22,Zc 23,Zc 24,Zc 25],Za 21 26,Zb 27 (.extract 0) [Zc 21],Zb 28 (.extract 1) [Zc 21],Zb 29 (.extract 2) [Zc 21],Zb 30 (.extract 3) [Zc 21],Za 15 27,Za 16 28,Za 17 29,Za 18 30] (.clean (.seq (Zg [Za 31 18,Zb 32 (.bin .neq) [Zc 31,.int .i64 0]] (.cond (Zc 32) (Zg [Za 33 18,Za 14 33] .ret) .skip)) (Zg [Zb 19 .mv [.fn 41]] (Zg [Zb 20 .mv [.fn 45]] (.seq (Zg [Za 34 15,Za 35 4,Za 36 19,Zb 37 (.call 46) [Zc 34,Zc 35,Zc 36],Zb 38 .not [Zc 37],Za 39 38,Ze 40 .mv [Zc 16] 5 39 false,Ze 41 .mv [Zc 5] 5 39 false,Ze 42 (.call 44) [Zc 40,Zc 41] 5 39 false,Ze 43 .not [Zc 42] 5 39 false,Zb 44 .pick [Zc 39,.bool true,Zc 43],Za 45 44,Ze 46 .mv [Zc 17] 11 45 false,Ze 47 .mv [Zc 6] 11 45 false,Ze 48 .mv [Zc 20] 11 45 false,Ze 49 (.call 47) [Zc 46,Zc 47,Zc 48] 11 45 false,Ze 50 .not [Zc 49] 11 45 false,Zb 51 .pick [Zc 45,.bool true,Zc 50]] (.cond (Zc 51) (Zg [Zb 14 .mv [.int .i64 23]] .ret) .skip)) (Zg [Zb 14 .mv [.int .i64 0]] .ret))))))))⟩
def z41:XF:=⟨31,[.tmp 4],[0,1,2,3,4],(Zg [Zb 2 (.box 65) [Zc 0],Zb 3 (.box 65) [Zc 1],Zb 4 .mv [.bool false]] (Zg [Zb 5 (.faddr 0 Z1) [Zc 2],Zb 6 (.load Z1) [Zc 5],Zb 7 (.faddr 0 Z1) [Zc 3],Zb 8 (.load Z1) [Zc 7],Zb 9 (.bin .eql) [Zc 6,Zc 8],Za 10 9,Ze 11 (.faddr 1 Z10) [Zc 2] 5 10 true,Ze 12 (.load Z10) [Zc 11] 5 10 true,Ze 13 (.faddr 1 Z10) [Zc 3] 5 10 true,Ze 14 (.load Z10) [Zc 13] 5 10 true,Ze 15 (.call 42) [Zc 12,Zc 14] 5 10 true,Zb 16 .pick [Zc 10,Zc 15,.bool false],Za 17 16,Ze 18 (.faddr 2 Z3) [Zc 2] 12 17 true,Ze 19 (.load Z3) [Zc 18] 12 17 true,Ze 20 (.faddr 2 Z3) [Zc 3] 12 17 true,Ze 21 (.load Z3) [Zc 20] 12 17 true,Ze 22 (.call 43) [Zc 19,Zc 21] 12 17 true,Zb 23 .pick [Zc 17,Zc 22,.bool false],Za 24 23,Ze 25 (.faddr 3 Z9) [Zc 2] 19 24 true,Ze 26 (.load Z9) [Zc 25] 19 24 true,Ze 27 (.faddr 3 Z9) [Zc 3] 19 24 true,Ze 28 (.load Z9) [Zc 27] 19 24 true,Ze 29 (.call 44) [Zc 26,Zc 28] 19 24 true,Zb 30 .pick [Zc 24,Zc 29,.bool false],Za 4 30] .ret))⟩
def z45:XF:=⟨17,[.tmp 4],[0,1,2,3,4],(Zg [Zb 2 (.box 60) [Zc 0],Zb 3 (.box 60) [Zc 1],Zb 4 .mv [.bool false]] (Zg [Zb 5 (.faddr 1 Z1) [Zc 2],Zb 6 (.load Z1) [Zc 5],Zb 7 (.faddr 1 Z1) [Zc 3],Zb 8 (.load Z1) [Zc 7],Zb 9 (.bin .eql) [Zc 6,Zc 8],Zb 10 .mv [Zc 9],Ze 11 (.faddr 0 Z9) [Zc 2] 5 10 true,Ze 12 (.load Z9) [Zc 11] 5 10 true,Ze 13 (.faddr 0 Z9) [Zc 3] 5 10 true,Ze 14 (.load Z9) [Zc 13] 5 10 true,Ze 15 (.call 44) [Zc 12,Zc 14] 5 10 true,Zb 16 .pick [Zc 10,Zc 15,.bool false],Zb 4 .mv [Zc 16]] .ret))⟩
def z46_0:XC:=(Zg [Zb 18 (.bin .lss) [Zc 17,Zc 16]] (.seq (.cond (Zc 18) .skip (.exit 0)) (.seq (.block 1 (Zg [Za 19 17,Zb 20 (.iaddr Z11) [Zc 15,Zc 17],Zd 21 Z11 20,Zb 8 (.alloc 65 Z11) [],Za 7 19,⟨none,.store Z11,[Zc 8,Zc 21],none,[]⟩] (Zg [Za 22 1,Za 23 7,Zb 24 (.iaddr Z11) [Zc 22,Zc 23],Zd 25 Z11 24,Zb 9 (.alloc 65 Z11) [],⟨none,.store Z11,[Zc 9,Zc 25],none,[]⟩] (Zg [Za 26 2,Zd 27 Z11 8,Zd 28 Z11 9,Zb 29 .callv [Zc 26,Zc 27,Zc 28],Zb 30 .not [Zc 29]] (.cond (Zc 30) (Zg [Zb 6 .mv [.bool false]] .ret) .skip))))) (.reg false [Zb 31 (.bin .add) [Zc 17,.int .i64 1],Za 17 31]))))
def z46_0d:List Nat:=[6,7,8,9,17]
def z46:XF:=⟨32,[.tmp 6],[0,1,2,6,7,8,9,15,16,17],(Zg [Zb 6 .mv [.bool false]] (.seq (Zg [Za 10 0,Zb 11 (.len false) [.t 10],Za 12 1,Zb 13 (.len false) [.t 12],Zb 14 (.bin .neq) [.t 11,.t 13]] (.cond (.t 14) (Zg [Zb 6 .mv [.bool false]] .ret) .skip)) (.clean (.seq (Zg [Za 15 0,Zb 16 (.len false) [.t 15],Zb 17 .mv [.int .i64 0]] (.block 0 (.loop z46_0))) (Zg [Zb 6 .mv [.bool true]] .ret)))))⟩
def z47_0:XC:=(Zg [Zb 18 (.bin .lss) [Zc 17,Zc 16]] (.seq (.cond (Zc 18) .skip (.exit 0)) (.seq (.block 1 (Zg [Za 19 17,Zb 20 (.iaddr Z12) [Zc 15,Zc 17],Zd 21 Z12 20,Zb 8 (.alloc 60 Z12) [],Za 7 19,⟨none,.store Z12,[Zc 8,Zc 21],none,[]⟩] (Zg [Za 22 1,Za 23 7,Zb 24 (.iaddr Z12) [Zc 22,Zc 23],Zd 25 Z12 24,Zb 9 (.alloc 60 Z12) [],⟨none,.store Z12,[Zc 9,Zc 25],none,[]⟩] (Zg [Za 26 2,Zd 27 Z12 8,Zd 28 Z12 9,Zb 29 .callv [Zc 26,Zc 27,Zc 28],Zb 30 .not [Zc 29]] (.cond (Zc 30) (Zg [Zb 6 .mv [.bool false]] .ret) .skip))))) (.reg false [Zb 31 (.bin .add) [Zc 17,.int .i64 1],Za 17 31]))))
def z47_0d:List Nat:=[6,7,8,9,17]
def z47:XF:=⟨32,[.tmp 6],[0,1,2,6,7,8,9,15,16,17],(Zg [Zb 6 .mv [.bool false]] (.seq (Zg [Za 10 0,Zb 11 (.len false) [.t 10],Za 12 1,Zb 13 (.len false) [.t 12],Zb 14 (.bin .neq) [.t 11,.t 13]] (.cond (.t 14) (Zg [Zb 6 .mv [.bool false]] .ret) .skip)) (.clean (.seq (Zg [Za 15 0,Zb 16 (.len false) [.t 15],Zb 17 .mv [.int .i64 0]] (.block 0 (.loop z47_0))) (Zg [Zb 6 .mv [.bool true]] .ret)))))⟩
def x6:XF:=⟨112,[.tmp 8],[0,1,2,3,4,8,9,11,13,14,16,18,20,22],(Zg [Zb 4 (.box 29) [Zc 0],Zb 8 .mv [.bool false]] (Zg [Zb 23 (.call 7) [],Za 9 23] (.seq (Zg [Zd 24 Z23 4,Za 25 1,Za 26 3,Zb 27 (.call 8) [Zc 24,Zc 25,Zc 26,.nil],Zb 28 .not [Zc 27],Za 29 28,Ze 30 .mv [Zc 1] 5 29 false,Ze 31 (.len false) [Zc 30] 5 29 false,Ze 32 (.bin .eql) [Zc 31,.int .i64 0] 5 29 false,Zb 33 .pick [Zc 29,.bool true,Zc 32]] (.cond (Zc 33) (Zg [Za 34 9,Za 8 34] .ret) .skip)) (.clean (Zg [Zd 36 Z23 4,Zb 37 (.call 10) [Zc 36],Za 38 1,Za 39 2,Za 40 3,Zb 41 (.call 9) [Zc 37,Zc 38,Zc 39,Zc 40],Za 35 41,Zb 42 (.extract 0) [Zc 35],Zb 43 (.extract 1) [Zc 35],Zb 44 (.extract 2) [Zc 35],Zb 45 (.extract 3) [Zc 35],Za 10 42,Za 11 43,Za 12 44,Za 13 45] (.clean (.seq (Zg [Za 46 13,Zb 47 (.bin .neq) [Zc 46,.int .i64 0]] (.cond (Zc 47) (Zg [Za 48 9,Za 8 48] .ret) .skip)) (Zg [Za 49 1,Zb 50 (.len false) [Zc 49],Zb 51 (.bin .sub) [Zc 50,.int .i64 1],Za 14 51] (.seq (Zg [Za 52 1,Za 53 14,Zb 54 (.iaddr Z11) [Zc 52,Zc 53],Zb 55 (.faddr 0 Z1) [Zc 54],Zd 56 Z1 55,Za 57 2,Zb 58 (.bin .neq) [Zc 56,Zc 57]] (.cond (Zc 58) (.seq (.reg true [Zd 60 Z23 4,Zf 61 (.call 10) [Zc 60] [0],Za 62 1,Za 63 14,Zf 64 (.slice Z11 false true false) [Zc 62,Zc 63] [2,3],Za 65 2,Za 66 3,Zf 67 (.call 9) [Zc 61,Zc 64,Zc 65,Zc 66] [1,0,4,2,3,5,6],Zf 59 .mv [Zc 67] [7,1,0,4,2,3,5,6],Zf 68 (.extract 0) [Zc 59] [8,7,1,0,4,2,3,5,6],Zf 69 (.extract 1) [Zc 59] [8,7,1,0,4,2,3,5,6],Zf 70 (.extract 2) [Zc 59] [8,7,1,0,4,2,3,5,6],Zf 71 (.extract 3) [Zc 59] [8,7,1,0,4,2,3,5,6],Zf 15 .mv [Zc 68] [9,8,7,1,0,4,2,3,5,6],Zf 16 .mv [Zc 69] [10,8,7,1,0,4,2,3,5,6,13,9],Zf 17 .mv [Zc 70] [11,8,7,1,0,4,2,3,5,6,14,10,13,9],Zf 18 .mv [Zc 71] [12,8,7,1,0,4,2,3,5,6,15,11,14,10,13,9]]) (.clean (Zg [Za 72 18,Zb 73 (.bin .neq) [Zc 72,.int .i64 0],Za 74 73,Ze 75 .mv [Zc 16] 2 74 false,Ze 76 (.len false) [Zc 75] 2 74 false,Ze 77 .mv [Zc 11] 2 74 false,Ze 78 (.len false) [Zc 77] 2 74 false,Ze 79 (.bin .lss) [Zc 76,Zc 78] 2 74 false,Zb 80 .pick [Zc 74,.bool true,Zc 79]] (.cond (Zc 80) (Zg [Zb 8 .mv [.bool false]] .ret) .skip)))) .skip)) (.clean (.seq (Zg [Za 81 3,Zb 82 (.len false) [Zc 81],Zb 83 (.bin .eql) [Zc 82,.int .i64 0]] (.cond (Zc 83) (Zg [Za 84 9,Za 8 84] .ret) .skip)) (.clean (.seq (.reg true [Zd 86 Z23 4,Zf 87 (.call 10) [Zc 86] [0],Za 88 1,Za 89 2,Za 90 3,Za 91 3,Zf 92 (.len false) [Zc 91] [5],Zf 93 (.bin .sub) [Zc 92,.int .i64 1] [6,5],Zf 94 (.slice Z1 false true false) [Zc 90,Zc 93] [4,7,6,5],Zf 95 (.call 9) [Zc 87,Zc 88,Zc 89,Zc 94] [1,0,2,3,8,4,7,6,5],Zf 85 .mv [Zc 95] [9,1,0,2,3,8,4,7,6,5],Zf 96 (.extract 0) [Zc 85] [10,9,1,0,2,3,8,4,7,6,5],Zf 97 (.extract 1) [Zc 85] [10,9,1,0,2,3,8,4,7,6,5],Zf 98 (.extract 2) [Zc 85] [10,9,1,0,2,3,8,4,7,6,5],Zf 99 (.extract 3) [Zc 85] [10,9,1,0,2,3,8,4,7,6,5],Zf 19 .mv [Zc 96] [11,10,9,1,0,2,3,8,4,7,6,5],Zf 20 .mv [Zc 97] [12,10,9,1,0,2,3,8,4,7,6,5,15,11],Zf 21 .mv [Zc 98] [13,10,9,1,0,2,3,8,4,7,6,5,16,12,15,11],Zf 22 .mv [Zc 99] [14,10,9,1,0,2,3,8,4,7,6,5,17,13,16,12,15,11]]) (.clean (Zg [Za 100 9,Za 101 100,Ze 102 .mv [Zc 22] 1 101 true,Ze 103 (.bin .eql) [Zc 102,.int .i64 0] 1 101 true,Zb 104 .pick [Zc 101,Zc 103,.bool false],Za 105 104,Ze 106 .mv [Zc 20] 5 105 true,Ze 107 (.len false) [Zc 106] 5 105 true,Ze 108 .mv [Zc 11] 5 105 true,Ze 109 (.len false) [Zc 108] 5 105 true,Ze 110 (.bin .leq) [Zc 107,Zc 109] 5 105 true,Zb 111 .pick [Zc 105,Zc 110,.bool false],Za 8 111] .ret)))))))))))))))⟩
end T
end Go.Proofs.YtpocfbfmjippnaaGreat
end
section
namespace Go.Proofs.YtpocfbfmjippnaaGreat
open Go.ChangeShapes Go.WideShapes Go.ChangeAt Go.RowKit Go.Joins
theorem own:ownKnob Tryz.prog.godebug=none:=by kernel_rfl
theorem laidOut:laidOutB Tryz.prog=true:=by kernel_rfl
end Go.Proofs.YtpocfbfmjippnaaGreat
end
section
namespace Go.Proofs.YtpocfbfmjippnaaGreat
open Go.RowKit Go.IntWalk
namespace T
def rg (n:Nat):List Nat:=List.range n
theorem rgI (n:Nat):List.range (n+1)=rg (n+1):=rfl
attribute [go_sem ↓] rgI xwp_top xwp_dead xwp_nxt xwp_rfor xwp_yld rndA_n rndB_n backR_n backR_r hasLp_mk leQ_mk xwp_icall backQ_n backQ_r backQ_e xwp_clean xwp_seq xwp_skip xwp_ret xwp_exit xwp_block xwp_loop xwp_reg xwp_cond thn_n thn_e thn_r XQ.seq XQ.blk
attribute [go_sem] nilOf slicey oslx copyx clearx srcx nxF nxT rndA_x rndB_x rndA_r rndB_r backR_e setLp entY entR ylOf List.zip_cons_cons List.zip_nil_left List.zip_nil_right mapOf keyOf' afterI entI exI oneAV keepI XO.reads XA.slot eqsx eqd List.drop_zero List.take_length Int.toNat_zero Int.toNat_natCast List.set_cons_zero List.set_cons_succ tmG cleanS headT numb rensT tmle fastD runR_true runR_false quiet Eff.tch List.getElem?_cons_succ List.getElem?_cons_zero List.getElem?_nil runT stepT gop gcond opg pickx boolOf XOp.isPick opx stripL strip pur XO.gv XA.av setT appL killL effOk ltAll AV.locs AV.locsL OB.locs look enter resAVs binx intBin eqx lenx condOf loadx partOf storex splice cellsOf scatter zeroAV fieldx faddrx iaddrx bounds avInt avIntK avBool extx slicex fillx rowx callx callvx fn1x fn2x findEnt rdL rdA rdClo rdCap rd rd1 rdAgg rdPtr rdc rd1c ofCst proj upd appendx freshEff ownx isNilV nilx nilkx ofNnl plainArg Ent.own Option.isSome_some Option.isSome_none minx Ty.isSt Ty.size Ty.scalar Ty.dflt cast?_self List.map_cons List.map_nil List.getD_cons_zero List.getD_cons_succ List.length_cons List.length_nil List.cons_append List.nil_append List.append_nil List.filter_cons List.filter_nil List.isEmpty_nil List.isEmpty_cons Option.map_some Option.map_none Option.bind_some Option.isNone_none Option.isNone_some Bool.false_eq_true if_true if_false ite_true ite_false Bool.and_true Bool.true_and Bool.and_false Bool.false_and and_true true_and and_self not_true_eq_false not_false_eq_true imp_self forall_const true_imp_iff implies_true decide_true decide_false cond_true cond_false List.find?_cons List.find?_nil beq_self_eq_true List.take_zero List.drop_succ_cons List.take_succ_cons retQ finish resAll resAV freshIs stepD runD okD meet reach reachO restr inAll effIn headOf puts put1 keep le' autoρ tidy renB rens ren1 asle avles avle hple oble uniq sub locOk assoc disj List.all_cons List.all_nil List.any_cons List.any_nil List.contains_nil List.contains_cons List.flatMap_cons List.flatMap_nil List.mem_cons List.not_mem_nil or_false false_or or_true true_or or_self Bool.or_false Bool.or_true Bool.true_or Bool.false_or Bool.not_true Bool.not_false List.take_nil List.drop_nil eq_self Option.some.injEq false_and and_false Bool.true_beq Bool.false_beq
theorem td:(∀n,rg n=List.range n)∧(∀{α:Type} {x:Decidable True} (t e:α),(if True then t else e)=t)∧(∀{α:Type} {x:Decidable False} (t e:α),(if False then t else e)=e)∧(∀(h:Decidable True),decide True=true)∧(∀(h:Decidable False),decide False=false)∧((false=true)=False)∧(∀{a:Prop},(True→a)↔a)∧((¬True)=False)∧((¬False)=True)∧(∀(a:Prop),(False→a)↔True)∧(∀(p:Prop),(p∧False)=False)∧(∀(p:Prop),(False∧p)=False)∧(∀(p:Prop),(p∨False)=p)∧(∀(p:Prop),(False∨p)=p)∧(∀(b:Bool),(b==false)= !b)∧(∀(b:Bool),(b==true)=b)∧(∀(a b:Bool),(bif a then b else false)=(a&&b))∧(∀(a b:Bool),(bif a then true else b)=(a||b))∧(∀(b:Bool),(!!b)=b)∧(∀(b:Bool),((!b)=true)=(b=false))∧(∀(b:Bool),((!b)=false)=(b=true))∧(∀(a b:Bool),((a||b)=true)=(a=true∨b=true))∧(∀{x y:Bool},(x||y)=false↔x=false∧y=false)∧(∀(a b:Bool),((a&&b)=true)=(a=true∧b=true))∧(∀{x y:Bool},(x&&y)=false↔(x=true→y=false))∧(∀{p:Prop} [inst:Decidable p],(decide p=true)=p)∧(∀{p:Prop} {x:Decidable p},decide p=false↔ ¬p)∧(∀{α:Type} [inst:BEq α] [LawfulBEq α] {a b:α},(a !=b)=true↔a≠b)∧(∀{α:Type} [inst:BEq α] [LawfulBEq α] {a b:α},(a !=b)=false↔a=b)∧(∀{α:Type} [inst:BEq α] [LawfulBEq α] {a b:α},(a==b)=true↔a=b)∧(∀{α:Type} [inst:BEq α] [LawfulBEq α] {a b:α},(a==b)=false↔a≠b)∧(∀{α:Type} (a b:α),(a≠b)= ¬a=b)∧(∀(n:Nat),(n:Int).toNat=n)∧(∀{a b:Int},¬a<b↔b≤a)∧(∀{a b:Int},¬a≤b↔b<a)∧(∀{α:Type} [inst:LE α] {x y:α},x≥y↔y≤x)∧(∀{α:Type} [inst:LT α] {x y:α},x>y↔y<x)∧(∀(n:Nat),0≤(n:Int))∧(∀{n m:Nat},(n:Int)<(m:Int)↔n<m)∧(∀{a:Prop},(a→a)↔True)∧(∀(p:Prop),(p∧True)=p)∧(∀(p:Prop),(True∧p)=p)∧(∀(α:Type),(∀(a:α),True)=True)∧(∀(α:Prop),(∀(a:α),True)=True)∧(∀{m n:Nat},(m:Int)=(n:Int)↔m=n)∧(∀(p:Prop),(p∧p)=p)∧(∀{a:Prop},¬¬a↔a):=⟨fun _=>rfl,@if_true,@if_false,@decide_true,@decide_false,@Bool.false_eq_true,@true_imp_iff,@not_true_eq_false,@not_false_eq_true,@false_imp_iff,@and_false,@false_and,@or_false,@false_or,@eqf,@eqt,@bif_and,@bif_or,@Bool.not_not,@Bool.not_eq_true',@Bool.not_eq_false',@Bool.or_eq_true,@Bool.or_eq_false_iff,@Bool.and_eq_true,@Bool.and_eq_false_imp,@decide_eq_true_eq,@decide_eq_false_iff_not,@bne_iff_ne,@bne_eq_false_iff_eq,@beq_iff_eq,@beq_eq_false_iff_ne,@ne_eq,@Int.toNat_natCast,@Int.not_lt,@Int.not_le,@ge_iff_le,@gt_iff_lt,@Int.natCast_nonneg,@Int.ofNat_lt,@imp_self,@and_true,@true_and,@implies_true,@implies_true,@Int.ofNat_inj,@and_self,@Classical.not_not⟩
attribute [go_sem] Nat.reduceAdd Nat.reduceSub Nat.reduceMul Nat.reduceLT Nat.reduceLeDiff Nat.reduceEqDiff Nat.reduceBEq Nat.reduceBNe List.reduceReplicate reduceCtorEq
attribute [go_sem ↓] reduceIte
end T
end Go.Proofs.YtpocfbfmjippnaaGreat
end
