/- Parts of the proof (put together by a program): definitions, lemmas, and the law; no condition. -/
import Derived.Test.YtcnfmabhghhdnaaGreatV1
import Derived.Test.YtcnfmabhghhdnaaGreatV2
import Derived.Test.YtcnfmabhghhdnaaGreatV3
import Derived.Test.YtcnfmabhghhdnaaGreatV4
import Derived.Test.YtcnfmabhghhdnaaGreatV5
set_option linter.unusedVariables false
set_option linter.unusedSimpArgs false
section
namespace Go.Proofs.YtcnfmabhghhdnaaGreat
open Go.RowKit
namespace T
theorem locsL_own {l k:Nat}:∀ {avs:List AV} {u:Nat},k ∈ AV.locsL (avs.set u (.own l))→k ∈ AV.locsL avs∨k=l
 | [],_,h=>.inl h
 | x :: r,0,h=>by
  rw [List.set_cons_zero,AV.locsL] at h
  rw [AV.locsL]
  rcases List.mem_append.1 h with h | h
  ·exact .inr (by simpa [AV.locs] using h)
  ·exact .inl (List.mem_append_right _ h)
 | x :: r,u+1,h=>by
  rw [List.set_cons_succ,AV.locsL] at h
  rw [AV.locsL]
  rcases List.mem_append.1 h with h | h
  ·exact .inl (List.mem_append_left _ h)
  ·rcases locsL_own h with h | h
   ·exact .inl (List.mem_append_right _ h)
   ·exact .inr h
theorem XW_nilb {P:Program} {C:List Ent} {n:Nat} {c:XC} {Q:XQ} {st:AS} (m u:Nat) (e:TypeId) (t:Ty) {T:TypeId} {cs:List AV} (h1:look st.hp m=some (.box T cs)) (hu:cs[u]? = some (.cst (.slice none 0 0)))
  (h:XW P C n c Q ⟨st.tm,appL ⟨.top,[],some (m,.box T (cs.set u (.own st.nx)))⟩ ((st.nx,.row e t []) :: st.hp),st.nx+1+1,st.kv⟩):XW P C n c Q st:=by
 intro code hc hC B M w0 ψ a w s ro hR
 have c0:=sim_ctx s
 have hnew:=c0.new
 have hM:(fun x=>M x∧blk (Value.slice none 0 0)≠some x)=M:=by
  funext x
  simp [blk]
 have s1:=Sim.adopt s (ob:=.row e t []) (u:=.slice none 0 0) (fun b hb=>by simp [blk] at hb) (fun k hk=>by simp [OB.locs] at hk)
  ⟨[],by rw [upd'_same];exact ⟨by simp,.inl ⟨rfl,rfl⟩⟩,rfl⟩
 rw [hM] at s1
 have s1:=Sim.base s1 s.bel
 have c1:=sim_ctx s1
 have hne:m≠st.nx:=fun q=>by rw [q,hnew] at h1;cases h1
 have h1':look ((st.nx,.row e t []) :: st.hp) m=some (.box T cs):=by rw [look_cons,putHp_other _ _ hne];exact h1
 have hob:=s1.hok.ob m _ h1'
 obtain ⟨b,cells,e1,hB,hg,q,q1⟩:=hob
 obtain ⟨v,hv,hav⟩:=q.at hu
 have hvn:v = .slice none 0 0:=hav
 subst hvn
 have op:OpPost P B M (look ((st.nx,.row e t []) :: st.hp)) (upd' ψ st.nx (.slice none 0 0)) w (st.nx+1) ⟨.top,[],some (m,.box T (cs.set u (.own st.nx)))⟩ undef w:=by
  refine c1.write (ob:=.box T (cs.set u (.own st.nx))) h1' trivial (by simp) rfl rfl rfl (Nat.le_refl _) (fun _ _ _=>rfl) (fun hlt=>⟨b,cells,e1,hB,hg,?_,q1⟩) (fun _=>trivial)
  have hk:=put_kind (fr:=st.nx+1) (ks:=[]) h1' (ob:=.box T (cs.set u (.own st.nx))) trivial
  refine AVRs.put (AVRs.later hlt (fun _ _=>rfl) hk (c1.obs m _ h1') q) hv ?_
  intro ob _
  exact (upd'_same _ _ _).symm
 obtain ⟨ψ',hs⟩:=s1.step (d:=none) (v:=undef) (A':=fun l=>l < st.nx+1+1) (Nat.lt_irrefl _) (fun _ e=>by cases e) (fun _ h=>Nat.lt_succ_of_lt h) (Nat.lt_succ_self _) (fun l' _ e=>by injection e with e;injection e with e e';subst e;exact Nat.lt_succ_of_lt (s1.hlt _ _ h1').1) (fun _ h=>by simp [AV.locs] at h)
  (fun l' ob' e k hk=>by
   injection e with e
   injection e with e e'
   subst e'
   rcases locsL_own hk with hk | rfl
   ·exact Nat.lt_succ_of_lt ((s1.hlt _ _ h1').2 k hk)
   ·omega) op
 refine h code hc hC B M w0 ψ' a w ?_ ro hR
 unfold Sim
 dsimp only
 rw [look_app]
 exact hs
end T
end Go.Proofs.YtcnfmabhghhdnaaGreat
end
section
namespace Go.Proofs.YtcnfmabhghhdnaaGreat
namespace T
def z43_0:XC:=(.seq (.reg false [Zb 25 (.bin .lss) [Zc 24,Zc 23]]) (.seq (.cond (Zc 25) .skip (.exit 0)) (.seq (.block 1 (.seq (.reg false [Zb 26 (.iaddr Z2) [Zc 22,Zc 24],Zd 27 Z2 26,Zb 6 (.alloc 85 Z2) [],⟨none,.store Z2,[Zc 6,Zc 27],none,[]⟩]) (.reg true [Zd 28 Z10 4,Zd 29 Z10 4,Zd 30 Z10 4,Zf 31 (.len false) [Zc 30] [2],Zf 32 (.bin .sub) [Zc 31,.int .i64 1] [3,2],Zf 33 (.iaddr Z1) [Zc 29,Zc 32] [1,4,3,2],Zf 34 (.load Z1) [Zc 33] [5,1,4,3,2],Zb 35 (.faddr 1 Z1) [Zc 6],Zf 36 (.load Z1) [Zc 35] [7],Zf 37 (.bin .add) [Zc 34,Zc 36] [6,5,1,4,3,2,8,7],⟨some 38,.bslice 3 Z1 1 [0],[Zc 37],none,[9,6,5,1,4,3,2,8,7]⟩,Zf 39 (.append 3 Z1 8) [Zc 28,Zc 38] [0,10,9,6,5,1,4,3,2,8,7],⟨none,.store Z10,[Zc 4,Zc 39],none,[11,0,10,9,6,5,1,4,3,2,8,7]⟩]))) (.reg false [Zb 40 (.bin .add) [Zc 24,.int .i64 1],Zb 24 .mv [Zc 40]]))))
def z43_0d:List Nat:=[6,24]
def z43_3:XC:=(.seq (.seq (.reg false [Za 83 12,Zb 84 (.faddr 1 Z1) [Zc 11],Zb 85 (.load Z1) [Zc 84],Zb 86 (.bin .leq) [Zc 83,Zc 85]]) (.cond (Zc 86) .skip (.exit 6))) (.seq (.block 7 (.reg true [Za 89 8,Za 90 9,Za 91 8,Za 92 9,Zf 93 (.iaddr Z1) [Zc 91,Zc 92] [2,3],Zf 94 (.load Z1) [Zc 93] [4,2,3],Za 95 8,Za 96 12,Zf 97 (.iaddr Z1) [Zc 95,Zc 96] [6,7],Zf 98 (.load Z1) [Zc 97] [8,6,7],Za 99 7,Za 100 12,Zb 101 (.faddr 1 Z1) [Zc 11],Zf 102 (.load Z1) [Zc 101] [12],⟨some 103,.callv,[Zc 99,Zc 100,Zc 102],none,[10,11,13,12]⟩,Zf 104 (.bin .add) [Zc 98,Zc 103] [9,8,6,7,14,10,11,13,12],Zb 105 (.faddr 2 Z1) [Zc 11],Zf 106 (.load Z1) [Zc 105] [16],Zf 107 (.bin .sub) [Zc 104,Zc 106] [15,9,8,6,7,14,10,11,13,12,17,16],Zf 108 .max [Zc 94,Zc 107] [5,4,2,3,18,15,9,8,6,7,14,10,11,13,12,17,16],Zf 109 (.iaddr Z1) [Zc 89,Zc 90] [0,1,2,3,4,5,6,7,8,9,10,11,12,13,14,15,16,17,18,19],⟨none,.store Z1,[Zc 109,Zc 108],none,[20,0,1,2,3,4,5,6,7,8,9,10,11,12,13,14,15,16,17,18,19]⟩])) (.clean (.reg false [Za 87 12,Zb 88 (.bin .add) [Zc 87,.int .i64 1],Za 12 88]))))
def z43_3d:List Nat:=[12]
def z43_2:XC:=(Zg [Zb 66 (.bin .lss) [Zc 65,Zc 64]] (.seq (.cond (Zc 66) .skip (.exit 4)) (.seq (.block 5 (Zg [Zb 67 (.iaddr Z5) [Zc 63,Zc 65],Zb 68 (.load Z5) [Zc 67],Zb 11 (.alloc 125 Z5) [],⟨none,.store Z5,[Zc 11,Zc 68],none,[]⟩] (.seq (Zg [Zb 69 (.faddr 0 Z1) [Zc 11],Zb 70 (.load Z1) [Zc 69],Za 71 9,Zb 72 (.bin .neq) [Zc 70,Zc 71]] (.cond (Zc 72) (.exit 5) .skip)) (.seq (.seq (.reg true [Za 73 7,Za 74 9,Zb 75 (.faddr 1 Z1) [Zc 11],⟨some 76,.load Z1,[Zc 75],none,[2]⟩,⟨some 77,.callv,[Zc 73,Zc 74,Zc 76],none,[0,1,3,2]⟩,Zb 78 (.faddr 2 Z1) [Zc 11],⟨some 79,.load Z1,[Zc 78],none,[5]⟩,⟨some 80,.bin .gtr,[Zc 77,Zc 79],none,[4,0,1,3,2,6,5]⟩]) (.cond (Zc 80) (Zg [Zb 2 (.nilrow 3 Z1) [],Zb 3 .mv [.int .i64 20]] .ret) .skip)) (.clean (Zg [Za 81 9,Zb 82 (.bin .add) [Zc 81,.int .i64 1],Za 12 82] (.block 6 (.loop z43_3)))))))) (.reg false [Zb 110 (.bin .add) [Zc 65,.int .i64 1],Za 65 110]))))
def z43_2d:List Nat:=[2,3,11,12,65]
def z43_1:XC:=(.seq (.seq (.reg false [Za 49 9,Zb 50 (.bin .geq) [.t 49,.int .i64 0]]) (.cond (.t 50) .skip (.exit 2))) (.seq (.block 3 (.seq (.reg false [Za 53 8,Za 54 9,Zb 55 (.faddr 0 Z3) [.t 1],Zd 56 Z3 55,Za 57 9,Zb 58 (.iaddr Z2) [.t 56,.t 57],Zb 59 (.faddr 0 Z1) [.t 58],Zd 60 Z1 59,Zb 61 (.iaddr Z1) [.t 53,.t 54],⟨none,.store Z1,[.t 61,.t 60],none,[]⟩]) (.clean (.seq (.reg false [Zb 62 (.faddr 2 Z9) [.t 1],Zd 63 Z9 62,Zb 64 (.len false) [.t 63],Zb 65 .mv [.int .i64 0]]) (.block 4 (.loop z43_2)))))) (.clean (.reg false [Za 51 9,Zb 52 (.bin .sub) [.t 51,.int .i64 1],Za 9 52]))))
def z43_1d:List Nat:=[2,3,9,11,12,63,64,65]
def z43_4:XC:=(Zg [Zb 120 (.bin .lss) [.t 119,.t 118]] (.seq (.cond (.t 120) .skip (.exit 8)) (.seq (.block 9 (Zg [Za 121 119,Zb 122 (.iaddr Z1) [.t 117,.t 119],Zd 123 Z1 122,Za 15 121,Za 16 123] (Zg [Za 124 16,Zb 125 (.faddr 0 Z3) [.t 1],Zd 126 Z3 125,Za 127 15,Zb 128 (.iaddr Z2) [.t 126,.t 127],Zb 129 (.faddr 1 Z1) [.t 128],Zd 130 Z1 129,Zb 131 (.bin .gtr) [.t 124,.t 130]] (.cond (.t 131) (Zg [Zb 2 (.nilrow 3 Z1) [],Zb 3 .mv [.int .i64 20]] .ret) .skip)))) (.reg false [Zb 132 (.bin .add) [.t 119,.int .i64 1],Za 119 132]))))
def z43_4d:List Nat:=[2,3,15,16,119]
def z43:XF:=⟨134,[.tmp 2,.tmp 3],[0,1,2,3,4,6,7,8,9,11,12,13,15,16,22,23,24,63,64,65,117,118,119],(Zg [Zb 1 (.box 80) [Zc 0],Zb 2 (.nilrow 3 Z1) [],Zb 3 .mv [.int .i64 0]] (.seq (Zg [Zd 17 Z11 1,Zb 18 (.call 40) [Zc 17],Zb 19 .not [Zc 18]] (.cond (Zc 19) (Zg [Zb 2 (.nilrow 3 Z1) [],Zb 3 .mv [.int .i64 1]] .ret) .skip)) (.clean (Zg [⟨some 20,.bslice 3 Z1 1 [0],[.int .i64 0],none,[]⟩,Zb 4 (.alloc 54 Z10) [],⟨none,.store Z10,[Zc 4,Zc 20],none,[]⟩] (.seq (Zg [Zb 21 (.faddr 1 Z3) [Zc 1],Zd 22 Z3 21,Zb 23 (.len false) [Zc 22],Zb 24 .mv [.int .i64 0]] (.block 0 (.loop z43_0))) (.clean (Zg [Zb 41 (.mkfn 83) [Zc 4],Za 7 41] (Zg [Zb 42 (.faddr 0 Z3) [Zc 1],Zd 43 Z3 42,Zb 44 (.len false) [Zc 43],Zb 45 (.mkslice 3 Z1 8) [Zc 44,Zc 44],Za 8 45] (.seq (Zg [Za 46 8,Zb 47 (.len false) [Zc 46],Zb 48 (.bin .sub) [Zc 47,.int .i64 1],Za 9 48] (.block 2 (.loop z43_1))) (.top (.clean (Zg [Zd 112 Z11 1,Za 113 8,Zb 114 (.call 49) [Zc 112,Zc 113],Za 111 114,Zb 115 (.extract 0) [Zc 111],Zb 116 (.extract 1) [Zc 111],Za 13 115,Za 14 116] (.clean (.seq (Zg [Za 117 13,Zb 118 (.len false) [Zc 117],Zb 119 .mv [.int .i64 0]] (.block 8 (.loop z43_4))) (.clean (Zg [Za 133 8,Za 2 133,Zb 3 .mv [.int .i64 0]] .ret))))))))))))))))⟩
end T
end Go.Proofs.YtcnfmabhghhdnaaGreat
end
section
namespace Go.Proofs.YtcnfmabhghhdnaaGreat
open Go.RowKit Go.Lib
namespace T
set_option maxRecDepth 100000
theorem wpList_copyI (w:World) {P:Program} {ops:Array Oper} {rest:List Oper} {o:Oper} {a:Act} {Q:Exit→Act→World→Prop} (hgd:o.guard=none) (d s:Operand) (t t':TypeId)
  (ho:o.op = .call { callee:=.builtin .copy,args:=#[d,s],argTypes:=#[t,t'] }) (v u:Value) (hd:a.eval d=v) (hs:a.eval s=u) {v':Value} {w':World}
  (hr:(Builtin.copy_ #[t,t'] o.type #[v,u]).run P w = .ok v' w') (h:wpList P ops Q rest (a.put o.dst v') w'):wpList P ops Q (o :: rest) a w :=
 wpList_plain hgd fun _ hK=>by
  unfold Oper.wp execOp
  simp only [ho,resolve,invoke,builtin,Sem.run_bind,Sem.run_pure,Result.andThen_ok,List.map_toArray,List.map_cons,List.map_nil,hd,hs,hr]
  exact hK _ _ h
theorem step_copyI {P:Program} {ops:Array Oper} {o:Oper} {a:Act} {w:World} {K:Act→World→Prop} {Q:Exit→Act→World→Prop} {E:Prop}
  (hg:o.guard=none) (d x:Operand) (dT sT:TypeId) (hop:o.op=Op.call { callee:=Callee.builtin Builtin.copy,args:=#[d,x],argTypes:=#[dT,sT] })
  (v u:Value) (hd:a.eval d=v) (hx:a.eval x=u) {v':Value} {w':World} (hr:(Builtin.copy_ #[dT,sT] o.type #[v,u]).run P w = .ok v' w') (hK:K (a.put o.dst v') w') :
  if Region.wanted o (yielded ops a.tmps)=true then Oper.wp P o a w K Q else E:=by
 have hw:Region.wanted o (yielded ops a.tmps)=true:=by simp [Region.wanted,hg]
 rw [if_pos hw]
 unfold Oper.wp
 simp [execOp,hop,resolve,invoke,builtin,hd,hx,hr,Result.andThen]
 exact hK
theorem insStop_end {w:World} {v:Value} {n:Nat} {cells vs:List Value} (hown:w.ownsRow 0 94 2 v n cells) {vb voff vc:Nat} (hvl:vs.length=2) (hvs:∀ j u,vs[j]? = some u→w.cell? ((⟨vb,voff,none⟩:Addr).add j)=some u) (h1:∀ u ∈ vs,u.oneCell' = true) (hb:(n+1) * 16≤140737488355328) :
  Calls Tryz.prog 101 #[v,.int .i64 n,.slice (some ⟨vb,voff,none⟩) 1 vc] w fun e w'=>∃ v',e = .returned v'∧w'.ownsRow 0 94 2 v' (n+1) (cells ++ vs)∧w.grownBy w' v.ownBlock∧Near w v v':=by
 obtain ⟨hu,i,hi,his⟩:=elemOk_spec (P:=Tryz.prog) (T:=52) (e:=94) (t:=(.st (.cons (.int .i64) .bool))) (by kernel_rfl)
 obtain ⟨i',z,hi',hz',hrd⟩:=zeroIs_spec (P:=Tryz.prog) (T:=94) (t:=(.st (.cons (.int .i64) .bool))) (by kernel_rfl)
 rw [hi] at hi';injection hi' with hi';subst hi'
 have hzs:z.cells.size=2:=by have:=(hrd w (fun _=>False)).len;simpa [Ty.size] using this
 have hby:(Tryz.prog.info? 94).map (·.bytes)=some 16:=by kernel_rfl
 rw [hi] at hby
 simp only [Option.map_some,Option.some.injEq] at hby
 obtain ⟨v',w',hr,k1,k2,k3⟩:=append_near (P:=Tryz.prog) (w:=w) 0 52 52 94 i z 2 16 hu hi hz' his hby hzs (by omega) v n cells hown ⟨vb,voff,none⟩ 1 vc vs (by rw [hvl]) hvs h1 (by simp only [maxLen];omega) hb (Nat.zero_le _)
 obtain ⟨A,c,rfl⟩:=ownsRow_slice hown
 rcases hown.2 with ⟨q,q'⟩ | ⟨g,cap,cur,q,_,hg,hnc,hcap,_⟩
 ·injection q with q1 q2 q3
  subst q1;subst q3;subst q'
  go_enter Tryz.func101,Tryz.ntmps101
  go_wp2_with (at_builtin;refine Lib.wpList_append_run _ rfl _ _ _ _ rfl _ _ rfl rfl _ _ hr ?_)
  go_ret
  exact ⟨_,rfl,k1,k2,k3⟩
 ·injection q with q1 q2 q3
  subst q1;subst q3
  simp only [maxLen] at hcap
  go_enter Tryz.func101,Tryz.ntmps101
  go_wp2_with (at_builtin;refine Lib.wpList_append_run _ rfl _ _ _ _ rfl _ _ rfl rfl _ _ hr ?_)
  all_goals (go_ret;exact ⟨_,rfl,k1,k2,k3⟩)
set_option maxHeartbeats 4000000 in
set_option maxRecDepth 100000 in
theorem insStop_shift {w:World} {g n cap i:Nat} {cur:Array Value} (hg:w.heap[g]? = some (.cells cur 94 (0,0))) (hcs:cur.size=cap * 2) (hroom:n+1≤cap) (hcap:cap≤9223372036854775807) (hi:i < n) (h1c:∀ u ∈ cur.toList.take (n * 2),u.oneCell' = true)
  {vs:List Value} {vb voff vc:Nat} (hvl:vs.length=2) (hvs:∀ j u,vs[j]? = some u→w.cell? ((⟨vb,voff,none⟩:Addr).add j)=some u) (h1:∀ u ∈ vs,u.oneCell' = true) {curv:Array Value} {ev:TypeId} (hgv:w.heap[vb]? = some (.cells curv ev (0,0))) (hne:vb≠g) :
  Calls Tryz.prog 101 #[.slice (some ⟨g,0,none⟩) n cap,.int .i64 i,.slice (some ⟨vb,voff,none⟩) 1 vc] w fun e w'=>e = .returned (.slice (some ⟨g,0,none⟩) (n+1) cap) ∧
   ∃ cur':Array Value,w'.heap[g]? = some (.cells cur' 94 (0,0))∧cur'.size=cap * 2∧cur'.toList.take ((n+1) * 2)=cur.toList.take ((i * 2)) ++ vs ++ (cur.toList.take (n * 2)).drop ((i * 2))∧w.grownBy w' (some g):=by
 obtain ⟨hu,inf,hin,his⟩:=elemOk_spec (P:=Tryz.prog) (T:=52) (e:=94) (t:=(.st (.cons (.int .i64) .bool))) (by kernel_rfl)
 have his:inf.size=2:=his
 have hszE:∀ w:World,(Go.sizeOf 94).run Tryz.prog w = .ok 2 w:=fun w=>by simp [sizeOf,typeInfo,hin,his]
 have hov:∀ o lb cb,(callFunc 148 #[.slice (some ⟨vb,voff,none⟩) 1 vc,.slice (some ⟨g,o,none⟩) lb cb]).run Tryz.prog w = .ok (.value (.bool false)) w:=fun o lb cb=>by
  rw [run_callFunc_extern Tryz.func148 (by kernel_rfl) (by kernel_rfl) (by kernel_rfl) (e:=Extern.SlicesOverlaps.overlaps #[52,52] #[4]) (by kernel_rfl),
   Lib.run_overlaps_apart w 52 4 94 hu 2 hszE ⟨vb,voff,none⟩ ⟨g,o,none⟩ 1 vc lb cb hne ev 94 curv.size cur.size (by simp [World.shape?,hgv]) (by simp [World.shape?,hg]) (by omega) (by simp [World.frozen?,hgv]) (by simp [World.frozen?,hgv])]
  rfl
 obtain ⟨C,hC⟩:∃ C,C=cur.toList.take (n * 2):=⟨_,rfl⟩
 have hCl:C.length=n * 2:=by rw [hC,List.length_take,Array.length_toList];omega
 rw [← hC] at h1c ⊢
 have hCat:∀ k v,C[k]? = some v→cur[k]? = some v:=fun k v h=>by
  rw [hC,List.getElem?_take] at h
  split at h
  ·simpa using h
  ·cases h
 obtain ⟨c1,hc1⟩:∃ c1:Array Value,c1=(cur.toList.take (((i+1) * 2)) ++ C.drop ((i * 2)) ++ cur.toList.drop (((i+1) * 2)+(C.drop ((i * 2))).length)).toArray:=⟨_,rfl⟩
 have hgD:w.drew.heap[g]? = some (.cells cur 94 (0,0)):=hg
 have hcp1:∀ ty dc sc,(Builtin.copy_ #[52,52] ty #[.slice (some ⟨g,((i+1) * 2),none⟩) (n - i) dc,.slice (some ⟨g,(i * 2),none⟩) (n+1 - i) sc]).run Tryz.prog w.drew = .ok (goInt (Nat.min (n+1 - i) (n - i):Nat)) (w.drew.setRow g c1):=fun ty dc sc=>by
  rw [hc1]
  exact run_copy_sized (P:=Tryz.prog) (w:=w.drew) (T':=52) (ty:=ty) (oc:=id) hu hin his (o:=((i+1) * 2)) (dLen:=n - i) (dCap:=dc) (sLen:=n+1 - i) (sCap:=sc) (a:=⟨g,(i * 2),none⟩) (cs:=C.drop ((i * 2))) hgD
   (by rw [List.length_drop,hCl,show Nat.min (n+1 - i) (n - i)=n - i from Nat.min_eq_right (by omega)];omega)
   (fun j v hj=>by
    rw [List.getElem?_drop] at hj
    have:=hCat _ _ hj
    rw [Addr.add_lit]
    simp [World.cell?,hgD,this])
   (by rw [List.length_drop,hCl,hcs];omega) (fun v hv=>h1c v (List.mem_of_mem_drop hv))
 have hc1s:c1.size=cap * 2:=by
  rw [hc1];simp only [List.size_toArray,List.length_append,List.length_take,List.length_drop,Array.length_toList,hCl,hcs];omega
 have hg1:(w.drew.setRow g c1).heap[g]? = some (.cells c1 94 (0,0)):=setRow_heap _ _ _ _ _ _ hgD
 obtain ⟨c2,hc2⟩:∃ c2:Array Value,c2=(c1.toList.take ((i * 2)) ++ vs ++ c1.toList.drop ((i * 2)+vs.length)).toArray:=⟨_,rfl⟩
 have hcp2:∀ ty dc,(Builtin.copy_ #[52,52] ty #[.slice (some ⟨g,(i * 2),none⟩) (n+1 - i) dc,.slice (some ⟨vb,voff,none⟩) 1 vc]).run Tryz.prog (w.drew.setRow g c1) = .ok (goInt (Nat.min 1 (n+1 - i):Nat)) ((w.drew.setRow g c1).setRow g c2):=fun ty dc=>by
  rw [hc2]
  exact run_copy_sized (P:=Tryz.prog) (w:=w.drew.setRow g c1) (T':=52) (ty:=ty) (oc:=id) hu hin his (o:=(i * 2)) (dLen:=n+1 - i) (dCap:=dc) (sLen:=1) (sCap:=vc) (a:=⟨vb,voff,none⟩) (cs:=vs) hg1
   (by rw [hvl,show Nat.min 1 (n+1 - i)=1 from Nat.min_eq_left (by omega)])
   (fun j v hj=>by
    have:=hvs j v hj
    rwa [World.cell?_of_block (w:=w) (a:=(⟨vb,voff,none⟩:Addr).add j) (by rw [Addr.add_lit,setRow_other _ _ _ _ hne];rfl)])
   (by rw [hvl,hc1s];omega) h1
 have a1:(cur.toList.take ((i+1) * 2)).length=((i+1) * 2):=by rw [List.length_take,Array.length_toList];omega
 have e1:c1.toList.take (i * 2)=cur.toList.take (i * 2):=by
  rw [hc1,List.append_assoc,List.take_append_of_le_length (by omega),List.take_take,Nat.min_eq_left (by omega)]
 have e2:c1.toList.drop ((i * 2)+vs.length)=C.drop (i * 2) ++ cur.toList.drop (((i+1) * 2)+(C.drop (i * 2)).length):=by
  rw [hc1,hvl,show (i * 2)+2=((i+1) * 2) by omega,List.append_assoc]
  exact List.drop_left' a1
 have hc2s:c2.size=cap * 2:=by
  rw [hc2];simp only [List.size_toArray,List.length_append,List.length_take,List.length_drop,Array.length_toList,hvl,hc1s];omega
 have hc2t:c2.toList.take ((n+1) * 2)=cur.toList.take (i * 2) ++ vs ++ C.drop (i * 2):=by
  rw [hc2,e1,e2,← List.append_assoc]
  refine List.take_left' ?_
  simp only [List.length_append,List.length_take,List.length_drop,Array.length_toList,hvl,hCl];omega
 have mixed:Tryz.prog.follows Departure.mixedOrders=true:=by kernel_rfl
 have hw1:IntKind.i64.wrap ((i:Int)+1)=(i:Int)+1:=by rw [IntKind.wrap_i64];omega
 have hb1:(0:Int)≤(i:Int)+1:=by omega
 have hin':i≤n:=by omega
 have htn:((i:Int)+1).toNat=i+1:=by omega
 have hb2:¬ (cap=i+1):=by omega
 have hb3:(i:Int)≤(n:Int)+1:=by omega
 have hb4:¬ (cap=i):=by omega
 clear hc1 hc2
 go_enter Tryz.func101,Tryz.ntmps101
 go_wp2_with (simp only [hov])
 go_region_law_o (refine step_copyI rfl _ _ 52 52 rfl _ _ (by simp [Act.eval,Act.put]) (by simp [Act.eval,Act.put]) (hcp1 _ _ _) ?_)
 go_wp2_with (at_builtin;refine wpList_copyI _ rfl _ _ 52 52 rfl _ _ rfl rfl (hcp2 _ _) ?_)
 go_ret
 refine ⟨rfl,c2,setRow_heap _ _ _ _ _ _ hg1,hc2s,hc2t,⟨rfl,rfl,rfl,by simp,fun k hk hn=>?_⟩⟩
 have hkg:k≠g:=fun e=>hn (by rw [e])
 rw [setRow_other _ _ _ _ hkg,setRow_other _ _ _ _ hkg];rfl
set_option maxHeartbeats 4000000 in
set_option maxRecDepth 100000 in
theorem insStop_grow {w:World} {g n cap i:Nat} {cur:Array Value} (hg:w.heap[g]? = some (.cells cur 94 (0,0))) (hcs:cur.size=cap * 2) (hnc:n≤cap) (hroom:cap < n+1) (hcap:cap≤9223372036854775807) (hi:i < n) (hbig:(n+1) * 16≤140737488355328) (h1c:∀ u ∈ cur.toList.take (n * 2),u.oneCell' = true)
  {vs:List Value} {vb voff vc:Nat} (hvl:vs.length=2) (hvs:∀ j u,vs[j]? = some u→w.cell? ((⟨vb,voff,none⟩:Addr).add j)=some u) (h1:∀ u ∈ vs,u.oneCell' = true) (hvw:vb < w.heap.size) :
  Calls Tryz.prog 101 #[.slice (some ⟨g,0,none⟩) n cap,.int .i64 i,.slice (some ⟨vb,voff,none⟩) 1 vc] w fun e w'=>∃ c',e = .returned (.slice (some ⟨w.heap.size,0,none⟩) (n+1) c') ∧
   ∃ cur':Array Value,w'.heap[w.heap.size]? = some (.cells cur' 94 (0,0))∧(n+1≤c'∧c' ≤ maxLen)∧cur'.size=c' * 2∧cur'.toList.take ((n+1) * 2)=cur.toList.take (i * 2) ++ vs ++ (cur.toList.take (n * 2)).drop (i * 2)∧w.grownBy w' none:=by
 obtain ⟨hu,inf,hin,his⟩:=elemOk_spec (P:=Tryz.prog) (T:=52) (e:=94) (t:=(.st (.cons (.int .i64) .bool))) (by kernel_rfl)
 have his:inf.size=2:=his
 obtain ⟨i',z,hi',hz',hrd⟩:=zeroIs_spec (P:=Tryz.prog) (T:=94) (t:=(.st (.cons (.int .i64) .bool))) (by kernel_rfl)
 rw [hin] at hi';injection hi' with hi';subst hi'
 have hzs:z.cells.size=2:=by have:=(hrd w (fun _=>False)).len;simpa [Ty.size] using this
 have hby:(Tryz.prog.info? 94).map (·.bytes)=some 16:=by kernel_rfl
 rw [hin] at hby
 simp only [Option.map_some,Option.some.injEq] at hby
 obtain ⟨C,hC⟩:∃ C,C=cur.toList.take (n * 2):=⟨_,rfl⟩
 have hCl:C.length=n * 2:=by rw [hC,List.length_take,Array.length_toList];omega
 rw [← hC] at h1c ⊢
 have hCat:∀ k v,C[k]? = some v→cur[k]? = some v:=fun k v h=>by
  rw [hC,List.getElem?_take] at h
  split at h
  ·simpa using h
  ·cases h
 have hgw:g < w.heap.size:=lt_of_block hg
 have hold:(Builtin.firstCells inf.size i (.slice (some ⟨g,0,none⟩) i cap)).run Tryz.prog w.drew = .ok (cur.toList.take (i * 2)).toArray w.drew:=by
  rw [his]
  exact run_firstCells_some w.drew 2 i ⟨g,0,none⟩ i cap (cur.toList.take (i * 2)) (by rw [List.length_take,Array.length_toList];omega) (fun j v hj=>by
   rw [Addr.add_lit]
   rw [List.getElem?_take] at hj
   split at hj
   ·have:w.drew.heap[g]? = some (.cells cur 94 (0,0)):=hg
    have hj:cur[j]? = some v:=by simpa using hj
    simp [World.cell?,this,hj]
   ·cases hj)
 have hrz:∀ ty,(Builtin.append_ #[52,3] ty #[.slice (some ⟨g,0,none⟩) i cap,.int .i64 ((n:Int)+1 - (i:Int))]).run Tryz.prog w = .ok (.slice (some ⟨w.heap.size,0,none⟩) (n+1) (grownCap w (n+1) cap 94)) (w.drew.alloc (.cells ((cur.toList.take (i * 2)).toArray ++ Builtin.zeroCells z.cells (n+1 - i) ++ Builtin.zeroCells z.cells (grownCap w (n+1) cap 94 - (n+1))) 94)):=fun ty=>by
  have h:=Lib.run_append_grow_zeros w 52 3 ty 94 inf z .i64 .i64 hu Tryz.underlying3 hin hz' (some ⟨g,0,none⟩) i cap (cur.toList.take (i * 2)) hold (n+1 - i) (by omega) (by omega) (by omega) (by omega) (by rw [hby];omega) (by rw [hby,show i+(n+1 - i)=n+1 by omega];exact growslice_fits hroom hbig)
  rw [show i+(n+1 - i)=n+1 by omega] at h
  rw [show (n:Int)+1 - (i:Int)=((n+1 - i:Nat):Int) by omega]
  exact h
 obtain ⟨G,hG⟩:∃ G,G=grownCap w (n+1) cap 94:=⟨_,rfl⟩
 obtain ⟨R0,hR0⟩:∃ R0:Array Value,R0=(cur.toList.take (i * 2)).toArray ++ Builtin.zeroCells z.cells (n+1 - i) ++ Builtin.zeroCells z.cells (G - (n+1)):=⟨_,rfl⟩
 rw [← hG] at hrz
 rw [← hR0] at hrz
 have hGn:n+1≤G:=by rw [hG];exact grownCap_ge w _ _ _
 have hGm:G≤maxLen:=by rw [hG];exact grownCap_le_maxLen w (n+1) cap 94 (by unfold maxLen;omega)
 have hG63:G≤9223372036854775807:=by unfold maxLen at hGm;omega
 have hz0:∀ k,(Builtin.zeroCells z.cells k).size=k * 2:=fun k=>by simp [Builtin.zeroCells,hzs]
 have hR0s:R0.size=G * 2:=by
  rw [hR0];simp only [Array.size_append,List.size_toArray,List.length_take,Array.length_toList,hz0];omega
 have hR0t:R0.toList.take (i * 2)=cur.toList.take (i * 2):=by
  rw [hR0,Array.append_assoc,Array.toList_append]
  exact List.take_left' (by rw [List.length_take,Array.length_toList];omega)
 obtain ⟨W1,hW1⟩:∃ W1,W1=w.drew.alloc (.cells R0 94):=⟨_,rfl⟩
 rw [← hW1] at hrz
 have hN1:W1.heap[w.heap.size]? = some (.cells R0 94 (0,0)):=by rw [hW1];exact (Array.getElem?_push_size ..)
 have hO1:∀ b,b < w.heap.size→W1.heap[b]? = w.heap[b]?:=fun b hb=>by rw [hW1];exact Below.heap_alloc w _ b hb
 obtain ⟨r1,hr1⟩:∃ r1:Array Value,r1=(R0.toList.take (i * 2) ++ vs ++ R0.toList.drop ((i * 2)+vs.length)).toArray:=⟨_,rfl⟩
 have hcpA:∀ (W:World),(∀ b:Nat,W.heap[b]? = W1.heap[b]?)→∀ ty dc,(Builtin.copy_ #[52,52] ty #[.slice (some ⟨w.heap.size,(i * 2),none⟩) (n+1 - i) dc,.slice (some ⟨vb,voff,none⟩) 1 vc]).run Tryz.prog W = .ok (goInt (Nat.min 1 (n+1 - i):Nat)) (W.setRow w.heap.size r1):=fun W hW ty dc=>by
  rw [hr1]
  exact run_copy_sized (P:=Tryz.prog) (w:=W) (T':=52) (ty:=ty) (oc:=id) hu hin his (o:=(i * 2)) (dLen:=n+1 - i) (dCap:=dc) (sLen:=1) (sCap:=vc) (a:=⟨vb,voff,none⟩) (cs:=vs) (by rw [hW];exact hN1)
   (by rw [hvl,show Nat.min 1 (n+1 - i)=1 from Nat.min_eq_left (by omega)])
   (fun j v hj=>by
    have:=hvs j v hj
    rwa [World.cell?_of_block (w:=w) (a:=(⟨vb,voff,none⟩:Addr).add j) (by rw [Addr.add_lit,hW];exact hO1 _ hvw)])
   (by rw [hvl,hR0s];omega) h1
 have hr1s:r1.size=G * 2:=by
  rw [hr1];simp only [List.size_toArray,List.length_append,List.length_take,List.length_drop,Array.length_toList,hvl,hR0s];omega
 have hr1t:r1.toList.take ((i+1) * 2)=cur.toList.take (i * 2) ++ vs:=by
  rw [hr1,hR0t]
  refine List.take_left' ?_
  simp only [List.length_append,List.length_take,Array.length_toList,hvl];omega
 obtain ⟨r2,hr2⟩:∃ r2:Array Value,r2=(r1.toList.take ((i+1) * 2) ++ C.drop (i * 2) ++ r1.toList.drop (((i+1) * 2)+(C.drop (i * 2)).length)).toArray:=⟨_,rfl⟩
 have hcpB:∀ (W:World),(∀ b:Nat,W.heap[b]? = (W1.setRow w.heap.size r1).heap[b]?)→∀ ty dc sc,(Builtin.copy_ #[52,52] ty #[.slice (some ⟨w.heap.size,((i+1) * 2),none⟩) (n - i) dc,.slice (some ⟨g,(i * 2),none⟩) (n - i) sc]).run Tryz.prog W = .ok (goInt (Nat.min (n - i) (n - i):Nat)) (W.setRow w.heap.size r2):=fun W hW ty dc sc=>by
  rw [hr2]
  exact run_copy_sized (P:=Tryz.prog) (w:=W) (T':=52) (ty:=ty) (oc:=id) hu hin his (o:=((i+1) * 2)) (dLen:=n - i) (dCap:=dc) (sLen:=n - i) (sCap:=sc) (a:=⟨g,(i * 2),none⟩) (cs:=C.drop (i * 2)) (by rw [hW];exact setRow_heap _ _ _ _ _ _ hN1)
   (by rw [List.length_drop,hCl,show Nat.min (n - i) (n - i)=n - i from Nat.min_self _];omega)
   (fun j v hj=>by
    rw [List.getElem?_drop] at hj
    have:=hCat _ _ hj
    rw [World.cell?_of_block (w:=w) (a:=(⟨g,(i * 2),none⟩:Addr).add j) (by rw [Addr.add_lit,hW,setRow_other _ _ _ _ (by dsimp only;omega)];exact hO1 _ hgw),Addr.add_lit]
    simp [World.cell?,hg,this])
   (by rw [List.length_drop,hCl,hr1s];omega) (fun v hv=>h1c v (List.mem_of_mem_drop hv))
 have hr2s:r2.size=G * 2:=by
  rw [hr2];simp only [List.size_toArray,List.length_append,List.length_take,List.length_drop,Array.length_toList,hCl,hr1s];omega
 have hr2t:r2.toList.take ((n+1) * 2)=cur.toList.take (i * 2) ++ vs ++ C.drop (i * 2):=by
  rw [hr2,hr1t]
  refine List.take_left' ?_
  simp only [List.length_append,List.length_take,List.length_drop,Array.length_toList,hvl,hCl];omega
 have hfin:∀ W:World,W.heap[w.heap.size]? = some (.cells r2 94 (0,0))→(∀ b,b < w.heap.size→W.heap[b]? = w.heap[b]?)→W.os=w.os→W.tape=w.tape→W.output=w.output→w.heap.size≤W.heap.size →
   ∃ c',Ending.returned (.slice (some ⟨w.heap.size,0,none⟩) (n+1) G) = .returned (.slice (some ⟨w.heap.size,0,none⟩) (n+1) c')∧∃ cur':Array Value,W.heap[w.heap.size]? = some (.cells cur' 94 (0,0))∧(n+1≤c'∧c' ≤ maxLen)∧cur'.size=c' * 2∧cur'.toList.take ((n+1) * 2)=cur.toList.take (i * 2) ++ vs ++ C.drop (i * 2)∧w.grownBy W none:=fun W q1 q2 q3 q4 q5 q6 =>
  ⟨G,rfl,r2,q1,⟨hGn,hGm⟩,hr2s,hr2t,⟨q3,q4,q5,q6,fun k hk _=>q2 k hk⟩⟩
 have hN2:(W1.setRow w.heap.size r1).heap[w.heap.size]? = some (.cells r1 94 (0,0)):=setRow_heap _ _ _ _ _ _ hN1
 have mixed:Tryz.prog.follows Departure.mixedOrders=true:=by kernel_rfl
 have hw1:IntKind.i64.wrap ((i:Int)+1)=(i:Int)+1:=by rw [IntKind.wrap_i64];omega
 have hb1:(0:Int)≤(i:Int)+1:=by omega
 have hin':i≤n:=by omega
 have htn:((i:Int)+1).toNat=i+1:=by omega
 have hb3:(i:Int)≤(n:Int):=by omega
 have hb5:(i:Int)≤(n:Int)+1:=by omega
 have hz3:(cap:Int) < (n:Int)+1:=by omega
 have hGi:¬ (G=i):=by omega
 have hGim:¬ (G=i+1):=by omega
 have hci:¬ (cap=i):=by omega
 subst hW1
 have hE:∀ b:Nat,((w.alloc (.cells R0 94)).drew).heap[b]? = (w.drew.alloc (.cells R0 94)).heap[b]?:=fun _=>rfl
 have hF:∀ b:Nat,(((w.alloc (.cells R0 94)).drew.setRow w.heap.size r1).drew).heap[b]? = ((w.drew.alloc (.cells R0 94)).setRow w.heap.size r1).heap[b]?:=fun _=>rfl
 clear hr1 hr2 hR0 hG hold
 go_enter Tryz.func101,Tryz.ntmps101
 go_wp2_with (first
  | (at_builtin;refine Lib.wpList_append_run _ rfl _ _ _ _ rfl _ _ rfl rfl _ _ (hrz _) ?_)
  | (at_builtin;refine wpList_copyI _ rfl _ _ 52 52 rfl _ _ rfl rfl (hcpA _ hE _ _) ?_))
 go_region_law_o (refine step_copyI rfl _ _ 52 52 rfl (.slice (some ⟨w.heap.size,((i+1) * 2),none⟩) (n - i) (G - (i+1))) (.slice (some ⟨g,(i * 2),none⟩) (n - i) (cap - i)) (by simp [Act.eval,Act.put]) (by simp [Act.eval,Act.put]) (hcpB _ hF 3 (G - (i+1)) (cap - i)) ?_)
 go_wp2
 go_ret
 refine hfin _ ?_ ?_ rfl rfl rfl ?_
 ·exact setRow_heap _ _ _ _ _ _ hN2
 ·intro b hb
  rw [setRow_other _ _ _ _ (by omega)]
  refine Eq.trans ?_ (hO1 b hb)
  exact setRow_other _ _ _ _ (by omega)
 ·simp
def insF {α:Type} (x:List α) (i:Nat) (v:List α):List α:=x.take i ++ v ++ x.drop i
def entInsStop:Ent:=⟨101,.cons (.sl (.st (.cons (.int .i64) .bool))) (.cons (.int .i64) (.cons (.sl (.st (.cons (.int .i64) .bool))) .nil)),.sl (.st (.cons (.int .i64) .bool)),true,some 94,fun x=>(0≤(x.2.1:Int)∧(x.2.1:Int)≤List.length (α:=(Int × Bool)) x.1)∧List.length (α:=(Int × Bool)) x.2.2.1=1∧List.length (α:=(Int × Bool)) x.1≤1000000,fun x=>insF (α:=(Int × Bool)) x.1 (x.2.1:Int).toNat x.2.2.1⟩
theorem conInsStop:Con Tryz.prog entInsStop:=by
 unfold Con
 rw [if_pos (by rfl)]
 refine ⟨by kernel_rfl,?_⟩
 rintro (x:List (Int × Bool)) ⟨(n:Int),(v:List (Int × Bool)),_⟩ ⟨⟨h0,h1⟩,hv1,hsm⟩ w M u us cells hM hMu hown hrow hargs hplain
 have h0:0≤n:=h0
 have h1:n≤x.length:=h1
 obtain ⟨i,rfl⟩:∃ i:Nat,n=i:=⟨n.toNat,by omega⟩
 obtain ⟨u1,us1,rfl,hu1,u2,us2,rfl,hu2,rfl⟩:=hargs
 obtain ⟨rfl,_⟩:=avr_int (P:=Tryz.prog) (hp:=fun _=>none) (ψ:=fun _=>undef) hu1
 have hv1:v.length=1:=hv1
 have hsm:x.length≤1000000:=hsm
 have hu2':RdV Tryz.prog (.sl (.st (.cons (.int .i64) .bool))) w M v u2:=hu2
 obtain ⟨A2,k2,c2,e2,hlen2,hkc2,hcm2,hd2⟩:=(RdV.one (t:=.sl (.st (.cons (.int .i64) .bool))) hu2' rfl rfl).1
 simp only [List.cons.injEq,and_true] at e2
 subst e2
 have hk2:k2=1:=by rw [← hlen2];exact hv1
 subst hk2
 rcases hd2 with hd2 | ⟨vb,voff,vs,rfl,hvw,hvM,hvc,hvr⟩
 ·cases hd2
 have hvl:vs.length=2:=by
  have:=RowsBy.len (n:=2) (fun (d:(Int × Bool)) c (q:Rd Tryz.prog (.st (.cons (.int .i64) .bool)) w M d c)=>q.len) hvr
  rw [hv1] at this;omega
 have hvs:∀ j u,vs[j]? = some u→w.cell? ((⟨vb,voff,none⟩:Addr).add j)=some u:=fun j u h=>by rw [Addr.add_lit];exact hvc j u h
 have hone:∀ {zs:List (Int × Bool)} {cs:List Value},RowsBy (fun x c=>Rd Tryz.prog (.st (.cons (.int .i64) .bool)) w M x c) zs cs→∀ u ∈ cs,u.oneCell' = true:=by
  intro zs
  induction zs with
  | nil=>intro cs h u hu;obtain rfl:cs=[]:=h;simp at hu
  | cons z r ih =>
   rintro cs ⟨c1,c2,rfl,q1,q2⟩ u hu
   rcases List.mem_append.1 hu with hu | hu
   ·exact Rd.one q1 u hu
   ·exact ih q2 u hu
 have h1v:=hone hvr
 have h1c:=hone hrow
 have hcl:cells.length=x.length * 2:=hown.1
 obtain ⟨r1,r2,er,hr1,hr2⟩:=RowsBy.split (xs:=x.take i) (ys:=x.drop i) (by rw [List.take_append_drop];exact hrow)
 have hr1l:r1.length=(i * 2):=by
  have:=RowsBy.len (n:=2) (fun (d:(Int × Bool)) c (q:Rd Tryz.prog (.st (.cons (.int .i64) .bool)) w M d c)=>q.len) hr1
  rw [List.length_take] at this;omega
 have hrows:RowsBy (fun x c=>Rd Tryz.prog (.st (.cons (.int .i64) .bool)) w M x c) (insF x i v) (cells.take (i * 2) ++ vs ++ cells.drop (i * 2)):=by
  unfold insF
  have t1:cells.take (i * 2)=r1:=by rw [er];exact List.take_left' hr1l
  have t2:cells.drop (i * 2)=r2:=by rw [er];exact List.drop_left' hr1l
  rw [t1,t2]
  exact (hr1.append hvr).append hr2
 have hFl:(insF x i v).length=x.length+1:=by unfold insF;simp only [List.length_append,List.length_take,List.length_drop,hv1];omega
 obtain ⟨hne,curv,ev,hgv⟩:=hplain (.slice (some ⟨vb,voff,none⟩) 1 c2) (by simp) vb rfl
 show Calls Tryz.prog 101 #[u,.int .i64 i,.slice (some ⟨vb,voff,none⟩) 1 c2] w fun en w'=>∃ v' cells',en = .returned v'∧w'.ownsRow 0 94 2 v' (insF x (Int.toNat i) v).length cells'∧RowsBy (fun x c=>Rd Tryz.prog (.st (.cons (.int .i64) .bool)) w M x c) (insF x (Int.toNat i) v) cells'∧w.grownBy w' u.ownBlock∧(blk v' = blk u∨∃ g,blk v' = some g∧w.heap.size≤g)
 rw [Int.toNat_natCast,hFl]
 have hown':w.ownsRow 0 94 2 u x.length cells:=hown
 by_cases hi:i=x.length
 ·subst hi
  refine Calls.mono (insStop_end (v:=u) hown' (vb:=vb) (voff:=voff) (vc:=c2) hvl hvs h1v (by omega)) ?_
  rintro en w' ⟨v',rfl,k1,k2,k3⟩
  obtain ⟨A,cX,eX⟩:=ownsRow_slice hown'
  obtain ⟨A',cX',eX'⟩:=ownsRow_slice k1
  refine ⟨v',_,rfl,k1,?_,k2,?_⟩
  ·have t1:∀ k,k=x.length * 2→cells.take k ++ vs ++ cells.drop k=cells ++ vs:=fun k e=>by
    rw [List.take_of_length_le (by omega),List.drop_of_length_le (by omega),List.append_nil]
   rw [t1 _ (by omega)] at hrows
   exact hrows
  ·rw [blk_own eX',blk_own eX];exact k3
 ·have hin:i < x.length:=by omega
  rcases hown'.2 with ⟨_,q⟩ | ⟨g,cap,cur,rfl,_,hg,hnc,hcap,hcs,htk⟩
  ·omega
  have hcap':cap≤9223372036854775807:=hcap
  have htk2:cur.toList.take (i * 2)=cells.take (i * 2):=by rw [← htk,List.take_take,Nat.min_eq_left (by omega)]
  have hbne:vb≠g:=fun e=>hne (by rw [e];rfl)
  by_cases hroom:x.length+1≤cap
  ·refine Calls.mono (insStop_shift hg hcs hroom hcap' hin (by rw [htk];exact h1c) hvl hvs h1v (vc:=c2) hgv hbne) ?_
   rintro en w' ⟨rfl,cur',k1,k2,k3,k4⟩
   rw [htk,htk2] at k3
   exact ⟨_,_,rfl,⟨by simp only [List.length_append,List.length_take,List.length_drop,hvl,hcl];omega,.inr ⟨g,cap,cur',rfl,Nat.zero_le _,k1,hroom,hcap,k2,k3⟩⟩,hrows,k4,.inl rfl⟩
  ·refine Calls.mono (insStop_grow hg hcs hnc (by omega) hcap' hin (by omega) (by rw [htk];exact h1c) hvl hvs h1v (vc:=c2) hvw) ?_
   rintro en w' ⟨c',rfl,cur',k1,⟨k5,k6⟩,k2,k3,k4⟩
   rw [htk,htk2] at k3
   exact ⟨_,_,rfl,⟨by simp only [List.length_append,List.length_take,List.length_drop,hvl,hcl];omega,.inr ⟨w.heap.size,c',cur',rfl,Nat.zero_le _,k1,k5,k6,k2,k3⟩⟩,hrows,⟨k4.os,k4.tape,k4.output,k4.size,fun k hk _=>k4.block k hk (by simp)⟩,.inr ⟨_,rfl,Nat.le_refl _⟩⟩
end T
end Go.Proofs.YtcnfmabhghhdnaaGreat
end
section
namespace Go.Proofs.YtcnfmabhghhdnaaGreat
namespace T
def z7:XF:=⟨134,[.tmp 0],[0,1,2,3,4,5,6,7,8,9,10,11,12,13,14,15,16,17,18,19,20,21],(Zg [Zb 0 .mv [.bool false]] (Zg [Zb 23 (.call 25) [],Za 22 23,Zb 24 (.extract 0) [Zc 22],Zb 25 (.extract 1) [Zc 22],Zb 1 (.alloc 29 Z24) [],Zi Z24 1 24,Za 2 25] (.clean (Zg [Zd 26 Z24 1,Zb 27 (.call 9) [Zc 26],Zb 3 (.alloc 35 Z24) [],Zi Z24 3 27] (Zg [Zd 29 Z24 3,Za 30 2,Zb 31 (.call 20) [Zc 29,.int .i64 0,Zc 30],Za 28 31,Zb 32 (.extract 0) [Zc 28],Zb 33 (.extract 1) [Zc 28],Zb 4 (.alloc 56 Z13) [],Zi Z13 4 32,Za 5 33] (.clean (Zg [Zd 35 Z24 3,Zb 36 (.call 20) [Zc 35,.int .i64 1,.nil],Za 34 36,Zb 37 (.extract 0) [Zc 34],Zb 38 (.extract 1) [Zc 34],Zb 6 (.alloc 56 Z13) [],Zi Z13 6 37,Za 7 38] (.clean (Zg [Zd 39 Z13 4,Zd 40 Z13 6,⟨some 41,.bslice 56 Z13 2 [0,1],[Zc 39,Zc 40],none,[]⟩,Za 8 41] (.top (.clean (Zg [Zd 43 Z24 3,Za 44 8,Zb 45 (.call 12) [Zc 43,Zc 44],Za 42 45,Zb 46 (.extract 0) [Zc 42],Zb 47 (.extract 1) [Zc 42],Za 9 46,Za 10 47] (.clean (Zg [Zd 49 Z24 3,Za 50 8,⟨some 51,.build Z21 [(2,Z1)],[.int .i64 1],none,[]⟩,Zb 52 (.call 10) [Zc 49,Zc 50,Zc 51],Za 48 52,Zb 53 (.extract 0) [Zc 48],Zb 54 (.extract 1) [Zc 48],Za 11 53,Za 12 54] (.clean (Zg [Zd 56 Z24 3,Za 57 11,Zb 58 (.call 12) [Zc 56,Zc 57],Za 55 58,Zb 59 (.extract 0) [Zc 55],Zb 60 (.extract 1) [Zc 55],Za 13 59,Za 14 60] (.clean (Zg [Zd 62 Z24 3,Za 63 8,Zb 64 (.call 14) [Zc 62,Zc 63],Za 61 64,Zb 65 (.extract 0) [Zc 61],Zb 66 (.extract 1) [Zc 61],Zb 67 (.extract 2) [Zc 61],Za 15 65,Za 16 66,Za 17 67] (.clean (Zg [Zd 69 Z24 3,Za 70 15,Zb 71 (.call 12) [Zc 69,Zc 70],Za 68 71,Zb 72 (.extract 0) [Zc 68],Zb 73 (.extract 1) [Zc 68],Za 18 72,Za 19 73] (.clean (.seq (Zg [Za 74 5,Zb 75 (.bin .neq) [Zc 74,.int .i64 0],Za 76 75,Ze 77 .mv [Zc 7] 2 76 false,Ze 78 (.bin .neq) [Zc 77,.int .i64 0] 2 76 false,Zb 79 .pick [Zc 76,.bool true,Zc 78],Za 80 79,Ze 81 .mv [Zc 12] 6 80 false,Ze 82 (.bin .neq) [Zc 81,.int .i64 0] 6 80 false,Zb 83 .pick [Zc 80,.bool true,Zc 82],Za 84 83,Ze 85 .mv [Zc 17] 10 84 false,Ze 86 (.bin .neq) [Zc 85,.int .i64 0] 10 84 false,Zb 87 .pick [Zc 84,.bool true,Zc 86],Za 88 87,Ze 89 .mv [Zc 11] 14 88 false,Ze 90 (.len false) [Zc 89] 14 88 false,Ze 91 (.bin .neq) [Zc 90,.int .i64 2] 14 88 false,Zb 92 .pick [Zc 88,.bool true,Zc 91]] (.cond (Zc 92) (Zg [Zb 0 .mv [.bool false]] .ret) .skip)) (.clean (.seq (.reg true [Zd 94 Z24 3,Za 95 11,Zf 96 (.iaddr Z13) [Zc 95,.int .i64 0] [1],Zf 97 (.load Z13) [Zc 96] [2,1],Zf 98 (.call 26) [Zc 94,Zc 97] [0,3,2,1],Zf 93 .mv [Zc 98] [4,0,3,2,1],Zf 99 (.extract 0) [Zc 93] [5,4,0,3,2,1],Zf 100 (.extract 1) [Zc 93] [5,4,0,3,2,1],Zf 20 .mv [Zc 99] [6,5,4,0,3,2,1],Zf 21 .mv [Zc 100] [7,5,4,0,3,2,1,8,6]]) (.clean (Zg [Za 101 10,Za 102 101,Ze 103 .mv [Zc 14] 1 102 true,Zb 104 .pick [Zc 102,Zc 103,.bool false],Za 105 104,Ze 106 .mv [Zc 19] 4 105 true,Zb 107 .pick [Zc 105,Zc 106,.bool false],Za 108 107,Ze 109 .mv [Zc 9] 7 108 true,Ze 110 (.bin .eql) [Zc 109,.int .i64 40] 7 108 true,Zb 111 .pick [Zc 108,Zc 110,.bool false],Za 112 111,Ze 113 .mv [Zc 13] 11 112 true,Ze 114 (.bin .eql) [Zc 113,.int .i64 30] 11 112 true,Zb 115 .pick [Zc 112,Zc 114,.bool false],Za 116 115,Ze 117 .mv [Zc 18] 15 116 true,Ze 118 (.bin .eql) [Zc 117,.int .i64 30] 15 116 true,Zb 119 .pick [Zc 116,Zc 118,.bool false],Za 120 119,Ze 121 .mv [Zc 21] 19 120 true,Ze 122 (.bin .eql) [Zc 121,.int .i64 0] 19 120 true,Zb 123 .pick [Zc 120,Zc 122,.bool false],Za 124 123,Ze 125 .mv [Zc 20] 23 124 true,Ze 126 (.bin .eql) [Zc 125,.int .i64 20] 23 124 true,Zb 127 .pick [Zc 124,Zc 126,.bool false],Za 128 127,Ze 129 .mv [Zc 16] 27 128 true,⟨some 130,.build Z21 [(3,Z1),(4,Z1)],[.int .i64 1,.int .i64 2],some (27,128,true),[]⟩,⟨some 131,.bslice 32 Z21 1 [0],[Zc 130],some (27,128,true),[]⟩,Ze 132 (.call 17) [Zc 129,Zc 131] 27 128 true,Zb 133 .pick [Zc 128,Zc 132,.bool false],Za 0 133] .ret))))))))))))))))))))))))))⟩
end T
end Go.Proofs.YtcnfmabhghhdnaaGreat
end
section
namespace Go.Proofs.YtcnfmabhghhdnaaGreat
namespace T
def x4_0:XC:=(.seq (.seq (.reg false [Za 107 16,Za 108 11,Zf 109 (.len false) [Zc 108] [],Zf 110 (.bin .lss) [Zc 107,Zc 109] []]) (.cond (Zc 110) .skip (.exit 0))) (.seq (.block 1 (.seq (.reg true [Za 113 11,Za 114 16,Zf 115 (.iaddr Z13) [Zc 113,Zc 114] [0,1],Zf 116 (.faddr 0 Z1) [Zc 115] [2,0,1],Zf 117 (.load Z1) [Zc 116] [3,2,0,1],Za 118 16,Zf 119 (.bin .neq) [Zc 117,Zc 118] [4,3,2,0,1,5],Zf 120 .mv [Zc 119] [6,4,3,2,0,1,5],Zh 121 (.load Z24) [Zc 8] 7 120 false [7,6,4,3,2,0,1,5],Zh 122 .mv [Zc 11] 7 120 false [7,6,4,3,2,0,1,5],Zh 123 .mv [Zc 16] 7 120 false [7,6,4,3,2,0,1,5],Zh 124 (.iaddr Z13) [Zc 122,Zc 123] 7 120 false [9,7,6,4,3,2,0,1,5,10],Zh 125 (.load Z13) [Zc 124] 7 120 false [11,9,7,6,4,3,2,0,1,5,10],Zh 126 (.call 19) [Zc 121,Zc 125] 7 120 false [8,7,6,4,3,2,0,1,5,12,11,9,10],Zh 127 (.bin .neq) [Zc 126,.int .i64 0] 7 120 false [13,8,7,6,4,3,2,0,1,5,12,11,9,10],Zf 128 .pick [Zc 120,.bool true,Zc 127] [7,6,4,3,2,0,1,5,14,13,8,12,11,9,10]]) (.cond (Zc 128) (.seq (.reg false [Zf 6 .mv [.bool false] []]) .ret) .skip))) (.clean (.reg false [Za 111 16,Zf 112 (.bin .add) [Zc 111,.int .i64 1] [],Za 16 112]))))
def x4_0d:List Nat:=[6,16]
def x4:XF:=⟨159,[.tmp 6],[0,1,2,3,5,6,7,8,9,10,11,12,13,14,15,16,17,18,19,20],(Zg [Zb 3 (.box 29) [Zc 0],Zb 5 (.box 32) [Zc 2],Zb 6 .mv [.bool false]] (Zg [Zb 21 (.call 7) [],Za 7 21] (.seq (Zg [Zd 22 Z24 3,Za 23 1,Zb 24 (.call 8) [Zc 22,Zc 23],Zb 25 .not [Zc 24]] (.cond (Zc 25) (Zg [Za 26 7,Za 6 26] .ret) .skip)) (.clean (Zg [Zd 27 Z24 3,Zb 28 (.call 9) [Zc 27],Zb 8 (.alloc 35 Z24) [],⟨none,.store Z24,[Zc 8,Zc 28],none,[]⟩] (Zg [Zd 30 Z24 8,Za 31 1,Zb 32 (.call 12) [Zc 30,Zc 31],Za 29 32,Zb 33 (.extract 0) [Zc 29],Zb 34 (.extract 1) [Zc 29],Za 9 33,Za 10 34] (.clean (Zg [Zd 36 Z24 8,Za 37 1,Zb 38 (.call 14) [Zc 36,Zc 37],Za 35 38,Zb 39 (.extract 0) [Zc 35],Zb 40 (.extract 1) [Zc 35],Zb 41 (.extract 2) [Zc 35],Za 11 39,Za 12 40,Za 13 41] (.clean (.seq (Zg [Za 42 10,Zb 43 .not [Zc 42]] (.cond (Zc 43) (Zg [Za 44 7,Za 45 44,Ze 46 .mv [Zc 13] 1 45 true,Ze 47 (.bin .eql) [Zc 46,.int .i64 1] 1 45 true,Zb 48 .pick [Zc 45,Zc 47,.bool false],Za 49 48,Ze 50 .mv [Zc 11] 5 49 true,Ze 51 (.len false) [Zc 50] 5 49 true,Ze 52 .mv [Zc 12] 5 49 true,Ze 53 (.len false) [Zc 52] 5 49 true,Ze 54 (.bin .add) [Zc 51,Zc 53] 5 49 true,Ze 55 (.bin .eql) [Zc 54,.int .i64 0] 5 49 true,Zb 56 .pick [Zc 49,Zc 55,.bool false],Za 57 56,Ze 58 .mv [Zc 9] 13 57 true,Ze 59 (.bin .eql) [Zc 58,.int .i64 0] 13 57 true,Zb 60 .pick [Zc 57,Zc 59,.bool false],Za 6 60] .ret) .skip)) (.clean (.seq (Zg [Za 61 13,Zb 62 (.bin .eql) [Zc 61,.int .i64 6]] (.cond (Zc 62) (Zg [Za 63 7,Za 64 63,Ze 65 .mv [Zc 11] 1 64 true,Ze 66 (.len false) [Zc 65] 1 64 true,Ze 67 .mv [Zc 12] 1 64 true,Ze 68 (.len false) [Zc 67] 1 64 true,Ze 69 (.bin .add) [Zc 66,Zc 68] 1 64 true,Ze 70 (.bin .eql) [Zc 69,.int .i64 0] 1 64 true,Zb 71 .pick [Zc 64,Zc 70,.bool false],Za 6 71] .ret) .skip)) (.clean (Zg [Zd 73 Z24 8,Za 74 11,Zb 75 (.call 12) [Zc 73,Zc 74],Za 72 75,Zb 76 (.extract 0) [Zc 72],Zb 77 (.extract 1) [Zc 72],Za 14 76,Za 15 77] (.clean (.seq (Zg [Za 78 13,Zb 79 (.bin .neq) [Zc 78,.int .i64 0],Za 80 79,Ze 81 .mv [Zc 15] 2 80 false,Ze 82 .not [Zc 81] 2 80 false,Zb 83 .pick [Zc 80,.bool true,Zc 82],Za 84 83,Ze 85 .mv [Zc 14] 6 84 false,Ze 86 .mv [Zc 9] 6 84 false,Ze 87 (.bin .gtr) [Zc 85,Zc 86] 6 84 false,Zb 88 .pick [Zc 84,.bool true,Zc 87],Za 89 88,Ze 90 .mv [Zc 14] 11 89 false,Ze 91 .mv [Zc 9] 11 89 false,Ze 92 (.bin .lss) [Zc 90,Zc 91] 11 89 false,Ze 93 .mv [Zc 12] 11 89 false,Ze 94 (.len false) [Zc 93] 11 89 false,Ze 95 (.bin .gtr) [Zc 94,.int .i64 0] 11 89 false,Ze 96 (.beq true .bool) [Zc 92,Zc 95] 11 89 false,Zb 97 .pick [Zc 89,.bool true,Zc 96],Za 98 97,Ze 99 .mv [Zc 1] 20 98 false,Ze 100 .mv [Zc 11] 20 98 false,Ze 101 (.faddr 3 Z7) [Zc 3] 20 98 false,Ze 102 (.load Z7) [Zc 101] 20 98 false,Ze 103 (.len false) [Zc 102] 20 98 false,Ze 104 (.call 18) [Zc 99,Zc 100,Zc 103] 20 98 false,Ze 105 .not [Zc 104] 20 98 false,Zb 106 .pick [Zc 98,.bool true,Zc 105]] (.cond (Zc 106) (Zg [Zb 6 .mv [.bool false]] .ret) .skip)) (.clean (.seq (Zg [Zb 16 .mv [.int .i64 0]] (.block 0 (.loop x4_0))) (.clean (Zg [Zd 130 Z24 8,Za 131 11,Zd 132 Z21 5,Zb 133 (.call 10) [Zc 130,Zc 131,Zc 132],Za 129 133,Zb 134 (.extract 0) [Zc 129],Zb 135 (.extract 1) [Zc 129],Za 17 134,Za 18 135] (.clean (.seq (Zg [Za 136 18,Zb 137 (.bin .neq) [Zc 136,.int .i64 0]] (.cond (Zc 137) (Zg [Za 138 7,Za 139 138,Ze 140 .mv [Zc 17] 1 139 true,Ze 141 (.len false) [Zc 140] 1 139 true,Ze 142 (.bin .eql) [Zc 141,.int .i64 0] 1 139 true,Zb 143 .pick [Zc 139,Zc 142,.bool false],Za 6 143] .ret) .skip)) (.clean (Zg [Zd 145 Z24 8,Za 146 17,Zb 147 (.call 12) [Zc 145,Zc 146],Za 144 147,Zb 148 (.extract 0) [Zc 144],Zb 149 (.extract 1) [Zc 144],Za 19 148,Za 20 149] (.clean (Zg [Za 150 7,Za 151 150,Ze 152 .mv [Zc 20] 1 151 true,Zb 153 .pick [Zc 151,Zc 152,.bool false],Za 154 153,Ze 155 .mv [Zc 19] 4 154 true,Ze 156 .mv [Zc 14] 4 154 true,Ze 157 (.bin .geq) [Zc 155,Zc 156] 4 154 true,Zb 158 .pick [Zc 154,Zc 157,.bool false],Za 6 158] .ret))))))))))))))))))))))))))⟩
def x5_0:XC:=(.seq (Zg [Za 45 13,Za 46 8,Zb 47 (.len false) [Zc 46],Zb 48 (.bin .lss) [Zc 45,Zc 47]] (.cond (Zc 48) .skip (.exit 0))) (.seq (.block 1 (.seq (.reg true [Zb 52 (.load Z24) [Zc 6],Za 53 10,Za 54 8,Za 55 13,Zf 56 (.iaddr Z21) [Zc 54,Zc 55] [2,3],Zf 57 (.load Z21) [Zc 56] [4,2,3],Zf 58 (.call 10) [Zc 52,Zc 53,Zc 57] [0,1,5,4,2,3],Zf 51 .mv [Zc 58] [6,0,1,5,4,2,3],Zf 59 (.extract 0) [Zc 51] [7,6,0,1,5,4,2,3],Zf 60 (.extract 1) [Zc 51] [7,6,0,1,5,4,2,3],Zf 14 .mv [Zc 59] [8,7,6,0,1,5,4,2,3],Zf 15 .mv [Zc 60] [9,7,6,0,1,5,4,2,3,10,8]]) (.clean (Zg [Zb 62 (.load Z24) [Zc 6],Za 63 14,Zb 64 (.call 12) [Zc 62,Zc 63],Za 61 64,Zb 65 (.extract 0) [Zc 61],Zb 66 (.extract 1) [Zc 61],Za 16 65,Za 17 66] (.clean (.seq (Zg [Za 67 15,Zb 68 (.bin .neq) [Zc 67,.int .i64 0],Za 69 68,Ze 70 .mv [Zc 17] 2 69 false,Ze 71 .not [Zc 70] 2 69 false,Zb 72 .pick [Zc 69,.bool true,Zc 71],Za 73 72,Ze 74 .mv [Zc 16] 6 73 false,Ze 75 .mv [Zc 11] 6 73 false,Ze 76 (.bin .geq) [Zc 74,Zc 75] 6 73 false,Zb 77 .pick [Zc 73,.bool true,Zc 76]] (.cond (Zc 77) (Zg [Zb 4 .mv [.bool false]] .ret) .skip)) (.clean (Zg [Za 78 14,Za 10 78] (.reg false [Za 79 16,Za 11 79]))))))))) (.clean (.reg false [Za 49 13,Zb 50 (.bin .add) [Zc 49,.int .i64 1],Za 13 50]))))
def x5_0d:List Nat:=[4,10,11,13,14,15,16,17]
def x5:XF:=⟨86,[.tmp 4],[0,1,2,4,5,6,7,8,9,10,11,12,13,14,15,16,17],(Zg [Zb 2 (.box 29) [Zc 0],Zb 4 .mv [.bool false]] (Zg [Zb 18 (.call 7) [],Za 5 18] (.seq (Zg [Zd 19 Z24 2,Za 20 1,Zb 21 (.call 8) [Zc 19,Zc 20],Zb 22 .not [Zc 21]] (.cond (Zc 22) (Zg [Za 23 5,Za 4 23] .ret) .skip)) (.clean (Zg [Zd 24 Z24 2,Zb 25 (.call 9) [Zc 24],Zb 6 (.alloc 35 Z24) [],⟨none,.store Z24,[Zc 6,Zc 25],none,[]⟩] (Zg [Zd 27 Z24 6,Za 28 1,Zb 29 (.call 14) [Zc 27,Zc 28],Za 26 29,Zb 30 (.extract 0) [Zc 26],Zb 31 (.extract 1) [Zc 26],Zb 32 (.extract 2) [Zc 26],Za 7 30,Za 8 31,Za 9 32] (.clean (.seq (Zg [Za 33 9,Zb 34 (.bin .neq) [Zc 33,.int .i64 0]] (.cond (Zc 34) (Zg [Za 35 5,Za 4 35] .ret) .skip)) (Zg [Za 36 1,Za 10 36] (Zg [Zd 38 Z24 6,Za 39 10,Zb 40 (.call 12) [Zc 38,Zc 39],Za 37 40,Zb 41 (.extract 0) [Zc 37],Zb 42 (.extract 1) [Zc 37],Za 11 41,Za 12 42] (.clean (.seq (Zg [Za 43 12,Zb 44 .not [Zc 43]] (.cond (Zc 44) (Zg [Zb 4 .mv [.bool false]] .ret) .skip)) (.seq (Zg [Zb 13 .mv [.int .i64 0]] (.block 0 (.loop x5_0))) (.clean (Zg [Za 80 5,Za 81 80,⟨some 82,.mv,[Zc 10],some (1,81,true),[]⟩,⟨some 83,.mv,[Zc 7],some (1,81,true),[]⟩,⟨some 84,.call 16,[Zc 82,Zc 83],some (1,81,true),[]⟩,Zb 85 .pick [Zc 81,Zc 84,.bool false],Za 4 85] .ret)))))))))))))))⟩
def x6_0:XC:=(.seq (.seq (.reg false [Za 27 9,Za 28 1,Zb 29 (.len false) [Zc 28],Zb 30 (.bin .lss) [Zc 27,Zc 29]]) (.cond (Zc 30) .skip (.exit 0))) (.seq (.block 1 (.seq (.reg true [Zb 34 (.load Z24) [Zc 8],Za 35 9,Za 36 1,Za 37 9,Zf 38 (.iaddr Z13) [Zc 36,Zc 37] [2,3],Zf 39 (.faddr 1 Z12) [Zc 38] [4,2,3],Zf 40 (.load Z12) [Zc 39] [5,4,2,3],Zf 41 (.call 20) [Zc 34,Zc 35,Zc 40] [0,1,6,5,4,2,3],Zf 33 .mv [Zc 41] [7,0,1,6,5,4,2,3],Zf 42 (.extract 0) [Zc 33] [8,7,0,1,6,5,4,2,3],Zf 43 (.extract 1) [Zc 33] [8,7,0,1,6,5,4,2,3],Zb 10 (.alloc 56 Z13) [],⟨none,.store Z13,[Zc 10,Zc 42],none,[11,9,8,7,0,1,6,5,4,2,3]⟩,Zf 11 .mv [Zc 43] [10,8,7,0,1,6,5,4,2,3,12,11,9]]) (.clean (.seq (.reg true [Za 44 11,Zf 45 (.bin .neq) [Zc 44,.int .i64 0] [0],Zf 46 .mv [Zc 45] [1,0],Zh 47 (.load Z13) [Zc 10] 2 46 false [2,1,0],Zh 48 .mv [Zc 1] 2 46 false [2,1,0],Zh 49 .mv [Zc 9] 2 46 false [2,1,0],Zh 50 (.iaddr Z13) [Zc 48,Zc 49] 2 46 false [4,2,1,0,5],Zh 51 (.load Z13) [Zc 50] 2 46 false [6,4,2,1,0,5],Zh 52 (.call 21) [Zc 47,Zc 51] 2 46 false [3,2,1,0,7,6,4,5],Zh 53 .not [Zc 52] 2 46 false [8,3,2,1,0,7,6,4,5],Zf 54 .pick [Zc 46,.bool true,Zc 53] [2,1,0,9,8,3,7,6,4,5]]) (.cond (Zc 54) (.seq (.reg false [Za 55 7,Za 6 55]) .ret) .skip))))) (.clean (.reg false [Za 31 9,Zb 32 (.bin .add) [Zc 31,.int .i64 1],Za 9 32]))))
def x6_0d:List Nat:=[6,9,10,11]
def x6_1:XC:=(.seq (.seq (.reg false [Za 130 18,Za 131 1,Zb 132 (.len false) [Zc 131],Zb 133 (.bin .lss) [Zc 130,Zc 132]]) (.cond (Zc 133) .skip (.exit 2))) (.seq (.block 3 (.seq (.reg true [Za 136 12,Za 137 18,Zf 138 (.iaddr Z13) [Zc 136,Zc 137] [0,1],Zf 139 (.faddr 1 Z12) [Zc 138] [2,0,1],Zf 140 (.load Z12) [Zc 139] [3,2,0,1],Zb 141 (.faddr 0 Z1) [Zc 5],Zf 142 (.load Z1) [Zc 141] [5],Zf 143 (.call 24) [Zc 140,Zc 142] [4,3,2,0,1,6,5],Za 144 1,Za 145 18,Zf 146 (.iaddr Z13) [Zc 144,Zc 145] [8,9],Zf 147 (.faddr 1 Z12) [Zc 146] [10,8,9],Zf 148 (.load Z12) [Zc 147] [11,10,8,9],Zb 149 (.faddr 0 Z1) [Zc 5],Zf 150 (.load Z1) [Zc 149] [13],Zf 151 (.call 24) [Zc 148,Zc 150] [12,11,10,8,9,14,13,7,4,3,2,0,1,6,5],Zf 152 (.call 23) [Zc 143,Zc 151] [7,4,3,2,0,1,6,5,15,12,11,10,8,9,14,13],Zf 153 .not [Zc 152] [16,7,4,3,2,0,1,6,5,15,12,11,10,8,9,14,13]]) (.cond (Zc 153) (.seq (.reg false [Zb 6 .mv [.bool false]]) .ret) .skip))) (.clean (.reg false [Za 134 18,Zb 135 (.bin .add) [Zc 134,.int .i64 1],Za 18 135]))))
def x6_1d:List Nat:=[6,18]
def x6:XF:=⟨155,[.tmp 6],[0,1,2,3,5,6,7,8,9,10,11,12,13,14,15,16,17,18],(Zg [Zb 3 (.box 29) [Zc 0],Zb 5 (.box 32) [Zc 2],Zb 6 .mv [.bool false]] (Zg [Zb 19 (.call 7) [],Za 7 19] (.seq (Zg [Zd 20 Z24 3,Za 21 1,Zb 22 (.call 8) [Zc 20,Zc 21],Zb 23 .not [Zc 22]] (.cond (Zc 23) (Zg [Za 24 7,Za 6 24] .ret) .skip)) (.clean (Zg [Zd 25 Z24 3,Zb 26 (.call 9) [Zc 25],Zb 8 (.alloc 35 Z24) [],⟨none,.store Z24,[Zc 8,Zc 26],none,[]⟩] (.seq (Zg [Zb 9 .mv [.int .i64 0]] (.block 0 (.loop x6_0))) (.clean (Zg [Zd 57 Z24 8,Za 58 1,Zd 59 Z21 5,Zb 60 (.call 10) [Zc 57,Zc 58,Zc 59],Za 56 60,Zb 61 (.extract 0) [Zc 56],Zb 62 (.extract 1) [Zc 56],Za 12 61,Za 13 62] (.clean (.seq (Zg [Za 63 13,Zb 64 (.bin .neq) [Zc 63,.int .i64 0]] (.cond (Zc 64) (Zg [Za 65 7,Za 66 65,Ze 67 .mv [Zc 12] 1 66 true,Ze 68 (.len false) [Zc 67] 1 66 true,Ze 69 (.bin .eql) [Zc 68,.int .i64 0] 1 66 true,Zb 70 .pick [Zc 66,Zc 69,.bool false],Za 6 70] .ret) .skip)) (.clean (.seq (Zg [Za 71 12,Zb 72 (.len false) [Zc 71],Za 73 1,Zb 74 (.len false) [Zc 73],Zb 75 (.bin .neq) [Zc 72,Zc 74],Za 76 75,Ze 77 (.faddr 1 Z1) [Zc 5] 5 76 false,Ze 78 (.load Z1) [Zc 77] 5 76 false,Ze 79 (.bin .lss) [Zc 78,.int .i64 0] 5 76 false,Zb 80 .pick [Zc 76,.bool true,Zc 79],Za 81 80,Ze 82 (.faddr 1 Z1) [Zc 5] 10 81 false,Ze 83 (.load Z1) [Zc 82] 10 81 false,Ze 84 .mv [Zc 1] 10 81 false,Ze 85 (.len false) [Zc 84] 10 81 false,Ze 86 (.bin .geq) [Zc 83,Zc 85] 10 81 false,Zb 87 .pick [Zc 81,.bool true,Zc 86]] (.cond (Zc 87) (Zg [Zb 6 .mv [.bool false]] .ret) .skip)) (.clean (.seq (.reg true [Za 88 1,Zb 89 (.faddr 1 Z1) [Zc 5],Zf 90 (.load Z1) [Zc 89] [1],Zf 91 (.iaddr Z13) [Zc 88,Zc 90] [0,2,1],Zf 92 (.faddr 1 Z12) [Zc 91] [3,0,2,1],Zf 93 (.load Z12) [Zc 92] [4,3,0,2,1],Zb 94 (.faddr 0 Z1) [Zc 5],Zf 95 (.load Z1) [Zc 94] [6],Zf 96 (.call 22) [Zc 93,Zc 95,.bool true] [5,4,3,0,2,1,7,6],Zf 14 .mv [Zc 96] [8,5,4,3,0,2,1,7,6]]) (.clean (.seq (.reg true [Za 97 1,Zb 98 (.faddr 1 Z1) [Zc 5],Zf 99 (.load Z1) [Zc 98] [1],Zf 100 (.iaddr Z13) [Zc 97,Zc 99] [0,2,1],Zf 101 (.faddr 1 Z12) [Zc 100] [3,0,2,1],Zf 102 (.load Z12) [Zc 101] [4,3,0,2,1],Zb 103 (.faddr 0 Z1) [Zc 5],Zf 104 (.load Z1) [Zc 103] [6],Zf 105 (.call 22) [Zc 102,Zc 104,.bool false] [5,4,3,0,2,1,7,6],Zf 106 (.bin .sub) [Zc 105,.int .i64 1] [8,5,4,3,0,2,1,7,6],Zf 15 .mv [Zc 106] [9,8,5,4,3,0,2,1,7,6]]) (.clean (Zg [Zd 108 Z24 8,Za 109 12,Zb 110 (.faddr 0 Z1) [Zc 5],Zd 111 Z1 110,Zb 112 (.faddr 2 Z1) [Zc 5],Zd 113 Z1 112,Zb 114 (.faddr 1 Z1) [Zc 5],Zd 115 Z1 114,Za 116 14,Za 117 15,⟨some 118,.build Z21 [(0,Z1),(1,Z1),(2,Z1),(3,Z1),(4,Z1)],[Zc 111,Zc 113,Zc 115,Zc 116,Zc 117],none,[]⟩,Zb 119 (.call 10) [Zc 108,Zc 109,Zc 118],Za 107 119,Zb 120 (.extract 0) [Zc 107],Zb 121 (.extract 1) [Zc 107],Za 16 120,Za 17 121] (.clean (.seq (Zg [Za 122 17,Zb 123 (.bin .neq) [Zc 122,.int .i64 0],Za 124 123,Ze 125 .mv [Zc 16] 2 124 false,Ze 126 .mv [Zc 1] 2 124 false,Ze 127 (.call 16) [Zc 125,Zc 126] 2 124 false,Ze 128 .not [Zc 127] 2 124 false,Zb 129 .pick [Zc 124,.bool true,Zc 128]] (.cond (Zc 129) (Zg [Zb 6 .mv [.bool false]] .ret) .skip)) (.clean (.seq (Zg [Zb 18 .mv [.int .i64 0]] (.block 2 (.loop x6_1))) (Zg [Za 154 7,Za 6 154] .ret)))))))))))))))))))))))⟩
end T
end Go.Proofs.YtcnfmabhghhdnaaGreat
end
section
namespace Go.Proofs.YtcnfmabhghhdnaaGreat
open Go.ChangeShapes Go.WideShapes Go.ChangeAt Go.RowKit Go.Joins
theorem own:ownKnob Tryz.prog.godebug=none:=by kernel_rfl
theorem laidOut:laidOutB Tryz.prog=true:=by kernel_rfl
end Go.Proofs.YtcnfmabhghhdnaaGreat
end
section
namespace Go.Proofs.YtcnfmabhghhdnaaGreat
open Go.RowKit Go.IntWalk
namespace T
def rg (n:Nat):List Nat:=List.range n
theorem rgI (n:Nat):List.range (n+1)=rg (n+1):=rfl
attribute [go_sem ↓] rgI xwp_top xwp_dead xwp_nxt xwp_rfor xwp_yld rndA_n rndB_n backR_n backR_r hasLp_mk leQ_mk xwp_icall backQ_n backQ_r backQ_e xwp_clean xwp_seq xwp_skip xwp_ret xwp_exit xwp_block xwp_loop xwp_reg xwp_cond thn_n thn_e thn_r XQ.seq XQ.blk
attribute [go_sem] nilOf slicey oslx copyx clearx srcx nxF nxT rndA_x rndB_x rndA_r rndB_r backR_e setLp entY entR ylOf List.zip_cons_cons List.zip_nil_left List.zip_nil_right mapOf keyOf' afterI entI exI oneAV keepI XO.reads XA.slot eqsx eqd List.drop_zero List.take_length Int.toNat_zero Int.toNat_natCast List.set_cons_zero List.set_cons_succ tmG cleanS headT numb rensT tmle fastD runR_true runR_false quiet Eff.tch List.getElem?_cons_succ List.getElem?_cons_zero List.getElem?_nil runT stepT gop gcond opg pickx boolOf XOp.isPick opx stripL strip pur XO.gv XA.av setT appL killL effOk ltAll AV.locs AV.locsL OB.locs look enter resAVs binx intBin eqx lenx condOf loadx partOf storex splice cellsOf scatter zeroAV fieldx faddrx iaddrx bounds avInt avIntK avBool extx slicex fillx rowx callx callvx fn1x fn2x findEnt rdL rdA rdClo rdCap rd rd1 rdAgg rdPtr rdc rd1c ofCst proj upd appendx freshEff ownx isNilV nilx plainArg Ent.own Option.isSome_some Option.isSome_none minx Ty.isSt Ty.size Ty.scalar Ty.dflt cast?_self List.map_cons List.map_nil List.getD_cons_zero List.getD_cons_succ List.length_cons List.length_nil List.cons_append List.nil_append List.append_nil List.filter_cons List.filter_nil List.isEmpty_nil List.isEmpty_cons Option.map_some Option.map_none Option.bind_some Option.isNone_none Option.isNone_some Bool.false_eq_true if_true if_false ite_true ite_false Bool.and_true Bool.true_and Bool.and_false Bool.false_and and_true true_and and_self not_true_eq_false not_false_eq_true imp_self forall_const true_imp_iff implies_true decide_true decide_false cond_true cond_false List.find?_cons List.find?_nil beq_self_eq_true List.take_zero List.drop_succ_cons List.take_succ_cons retQ finish resAll resAV freshIs stepD runD okD meet reach reachO restr inAll effIn headOf puts put1 keep le' autoρ tidy renB rens ren1 asle avles avle hple oble uniq sub locOk assoc disj List.all_cons List.all_nil List.any_cons List.any_nil List.contains_nil List.contains_cons List.flatMap_cons List.flatMap_nil List.mem_cons List.not_mem_nil or_false false_or or_true true_or or_self Bool.or_false Bool.or_true Bool.true_or Bool.false_or Bool.not_true Bool.not_false List.take_nil List.drop_nil eq_self Option.some.injEq false_and and_false Bool.true_beq Bool.false_beq
theorem td:(∀ n,rg n=List.range n)∧(∀ {α:Type} {x:Decidable True} (t e:α),(if True then t else e)=t)∧(∀ {α:Type} {x:Decidable False} (t e:α),(if False then t else e)=e)∧(∀ (h:Decidable True),decide True=true)∧(∀ (h:Decidable False),decide False=false)∧((false=true)=False)∧(∀ {a:Prop},(True→a) ↔ a)∧((¬True)=False)∧((¬False)=True)∧(∀ (a:Prop),(False→a) ↔ True)∧(∀ (p:Prop),(p∧False)=False)∧(∀ (p:Prop),(False∧p)=False)∧(∀ (p:Prop),(p∨False)=p)∧(∀ (p:Prop),(False∨p)=p)∧(∀ (b:Bool),(b == false) = !b)∧(∀ (b:Bool),(b == true)=b)∧(∀ (a b:Bool),(bif a then b else false)=(a && b))∧(∀ (a b:Bool),(bif a then true else b)=(a || b))∧(∀ (b:Bool),(!!b)=b)∧(∀ (b:Bool),((!b)=true)=(b=false))∧(∀ (b:Bool),((!b)=false)=(b=true))∧(∀ (a b:Bool),((a || b)=true)=(a=true∨b=true))∧(∀ {x y:Bool},(x || y)=false ↔ x=false∧y=false)∧(∀ (a b:Bool),((a && b)=true)=(a=true∧b=true))∧(∀ {x y:Bool},(x && y)=false ↔ (x=true→y=false))∧(∀ {p:Prop} [inst:Decidable p],(decide p=true)=p)∧(∀ {p:Prop} {x:Decidable p},decide p=false ↔ ¬p)∧(∀ {α:Type} [inst:BEq α] [LawfulBEq α] {a b:α},(a != b)=true ↔ a≠b)∧(∀ {α:Type} [inst:BEq α] [LawfulBEq α] {a b:α},(a != b)=false ↔ a=b)∧(∀ {α:Type} [inst:BEq α] [LawfulBEq α] {a b:α},(a == b)=true ↔ a=b)∧(∀ {α:Type} [inst:BEq α] [LawfulBEq α] {a b:α},(a == b)=false ↔ a≠b)∧(∀ {α:Type} (a b:α),(a≠b) = ¬a=b)∧(∀ (n:Nat),(n:Int).toNat=n)∧(∀ {a b:Int},¬a < b ↔ b≤a)∧(∀ {a b:Int},¬a≤b ↔ b < a)∧(∀ {α:Type} [inst:LE α] {x y:α},x ≥ y ↔ y≤x)∧(∀ {α:Type} [inst:LT α] {x y:α},x > y ↔ y < x)∧(∀ (n:Nat),0≤(n:Int))∧(∀ {n m:Nat},(n:Int) < (m:Int) ↔ n < m)∧(∀ {a:Prop},(a→a) ↔ True)∧(∀ (p:Prop),(p∧True)=p)∧(∀ (p:Prop),(True∧p)=p)∧(∀ (α:Type),(∀ (a:α),True)=True)∧(∀ (α:Prop),(∀ (a:α),True)=True)∧(∀ {m n:Nat},(m:Int)=(n:Int) ↔ m=n)∧(∀ (p:Prop),(p∧p)=p)∧(∀ {a:Prop},¬¬a ↔ a):=⟨fun _=>rfl,@if_true,@if_false,@decide_true,@decide_false,@Bool.false_eq_true,@true_imp_iff,@not_true_eq_false,@not_false_eq_true,@false_imp_iff,@and_false,@false_and,@or_false,@false_or,@eqf,@eqt,@bif_and,@bif_or,@Bool.not_not,@Bool.not_eq_true',@Bool.not_eq_false',@Bool.or_eq_true,@Bool.or_eq_false_iff,@Bool.and_eq_true,@Bool.and_eq_false_imp,@decide_eq_true_eq,@decide_eq_false_iff_not,@bne_iff_ne,@bne_eq_false_iff_eq,@beq_iff_eq,@beq_eq_false_iff_ne,@ne_eq,@Int.toNat_natCast,@Int.not_lt,@Int.not_le,@ge_iff_le,@gt_iff_lt,@Int.natCast_nonneg,@Int.ofNat_lt,@imp_self,@and_true,@true_and,@implies_true,@implies_true,@Int.ofNat_inj,@and_self,@Classical.not_not⟩
attribute [go_sem] Nat.reduceAdd Nat.reduceSub Nat.reduceMul Nat.reduceLT Nat.reduceLeDiff Nat.reduceEqDiff Nat.reduceBEq Nat.reduceBNe List.reduceReplicate reduceCtorEq
attribute [go_sem ↓] reduceIte
end T
end Go.Proofs.YtcnfmabhghhdnaaGreat
end
