/- slices.Insert of one element, at a row of the caller's own, by the walk of the plain calculus. -/
import Derived.Test.YtbbpiihbhdagnaaT21
import Derived.Shelf.RegionOpenPlain
import Derived.Lib.Overlaps
import Derived.Lib.JoinLaws
import Derived.Lib.AppendZerosOnto
import Derived.Lib.SliceRun
import Derived.Lib.Walk
import Derived.Laws.IdiomCopy
namespace Go.Proofs.Ytbbpiihbhdagnaa
set_option linter.unusedVariables false
set_option linter.unusedSimpArgs false
open Go.RowKit Go.Lib
namespace T
theorem wpList_copyI (w : World) {P : Program} {ops : Array Oper} {rest : List Oper} {o : Oper} {a : Act} {Q : Exit → Act → World → Prop} (hgd : o.guard = none) (d s : Operand) (t t' : TypeId)
    (ho : o.op = .call { callee := .builtin .copy, args := #[d, s], argTypes := #[t, t'] }) (v u : Value) (hd : a.eval d = v) (hs : a.eval s = u) {v' : Value} {w' : World}
    (hr : (Builtin.copy_ #[t, t'] o.type #[v, u]).run P w = .ok v' w') (h : wpList P ops Q rest (a.put o.dst v') w') : wpList P ops Q (o :: rest) a w :=
  wpList_plain hgd fun _ hK => by
    unfold Oper.wp execOp
    simp only [ho, resolve, invoke, builtin, Sem.run_bind, Sem.run_pure, Result.andThen_ok, List.map_toArray, List.map_cons, List.map_nil, hd, hs, hr]
    exact hK _ _ h
theorem step_copyI {P : Program} {ops : Array Oper} {o : Oper} {a : Act} {w : World} {K : Act → World → Prop} {Q : Exit → Act → World → Prop} {E : Prop}
    (hg : o.guard = none) (d x : Operand) (dT sT : TypeId) (hop : o.op = Op.call { callee := Callee.builtin Builtin.copy, args := #[d, x], argTypes := #[dT, sT] })
    (v u : Value) (hd : a.eval d = v) (hx : a.eval x = u) {v' : Value} {w' : World} (hr : (Builtin.copy_ #[dT, sT] o.type #[v, u]).run P w = .ok v' w') (hK : K (a.put o.dst v') w') :
    if Region.wanted o (yielded ops a.tmps) = true then Oper.wp P o a w K Q else E := by
  have hw : Region.wanted o (yielded ops a.tmps) = true := by simp [Region.wanted, hg]
  rw [if_pos hw]
  unfold Oper.wp
  simp [execOp, hop, resolve, invoke, builtin, hd, hx, hr, Result.andThen]
  exact hK
/-- At the end. -/
theorem insLoan_end {w : World} {v : Value} {n : Nat} {cells vs : List Value} (hown : w.ownsRow 0 41 3 v n cells) {vb voff vc : Nat} (hvl : vs.length = 3) (hvs : ∀ j u, vs[j]? = some u → w.cell? ((⟨vb, voff, none⟩ : Addr).add j) = some u) (h1 : ∀ u ∈ vs, u.oneCell' = true) (hb : (n + 1) * 24 ≤ 140737488355328) :
    Calls Try.prog 31 #[v, .int .i64 n, .slice (some ⟨vb, voff, none⟩) 1 vc] w fun e w' => ∃ v', e = .returned v' ∧ w'.ownsRow 0 41 3 v' (n + 1) (cells ++ vs) ∧ w.grownBy w' v.ownBlock ∧ Near w v v' := by
  obtain ⟨hu, i, hi, his⟩ := elemOk_spec (P := Try.prog) (T := 22) (e := 41) (t := (.st (.cons (.int .i64) (.cons (.int .i64) (.int .i64))))) (by kernel_rfl)
  obtain ⟨i', z, hi', hz', hrd⟩ := zeroIs_spec (P := Try.prog) (T := 41) (t := (.st (.cons (.int .i64) (.cons (.int .i64) (.int .i64))))) (by kernel_rfl)
  rw [hi] at hi'; injection hi' with hi'; subst hi'
  have hzs : z.cells.size = 3 := by have := (hrd w (fun _ => False)).len; simpa [Ty.size] using this
  have hby : (Try.prog.info? 41).map (·.bytes) = some 24 := by kernel_rfl
  rw [hi] at hby
  simp only [Option.map_some, Option.some.injEq] at hby
  obtain ⟨v', w', hr, k1, k2, k3⟩ := append_near (P := Try.prog) (w := w) 0 22 22 41 i z 3 24 hu hi hz' his hby hzs (by omega) v n cells hown ⟨vb, voff, none⟩ 1 vc vs (by rw [hvl]) hvs h1 (by simp only [maxLen]; omega) hb (Nat.zero_le _)
  obtain ⟨A, c, rfl⟩ := ownsRow_slice hown
  rcases hown.2 with ⟨q, q'⟩ | ⟨g, cap, cur, q, _, hg, hnc, hcap, _⟩
  · injection q with q1 q2 q3
    subst q1; subst q3; subst q'
    go_enter Try.func31, Try.ntmps31
    go_wp2_with (at_builtin; refine Lib.wpList_append_run _ rfl _ _ _ _ rfl _ _ rfl rfl _ _ hr ?_)
    go_ret
    exact ⟨_, rfl, k1, k2, k3⟩
  · injection q with q1 q2 q3
    subst q1; subst q3
    simp only [maxLen] at hcap
    go_enter Try.func31, Try.ntmps31
    go_wp2_with (at_builtin; refine Lib.wpList_append_run _ rfl _ _ _ _ rfl _ _ rfl rfl _ _ hr ?_)
    all_goals (go_ret; exact ⟨_, rfl, k1, k2, k3⟩)
set_option maxHeartbeats 4000000 in
set_option maxRecDepth 100000 in
/-- In the middle, where there is room. -/
theorem insLoan_shift {w : World} {g n cap i : Nat} {cur : Array Value} (hg : w.heap[g]? = some (.cells cur 41 (0, 0))) (hcs : cur.size = cap * 3) (hroom : n + 1 ≤ cap) (hcap : cap ≤ 9223372036854775807) (hi : i < n) (h1c : ∀ u ∈ cur.toList.take (n * 3), u.oneCell' = true)
    {vs : List Value} {vb voff vc : Nat} (hvl : vs.length = 3) (hvs : ∀ j u, vs[j]? = some u → w.cell? ((⟨vb, voff, none⟩ : Addr).add j) = some u) (h1 : ∀ u ∈ vs, u.oneCell' = true) {curv : Array Value} {ev : TypeId} (hgv : w.heap[vb]? = some (.cells curv ev (0, 0))) (hne : vb ≠ g) :
    Calls Try.prog 31 #[.slice (some ⟨g, 0, none⟩) n cap, .int .i64 i, .slice (some ⟨vb, voff, none⟩) 1 vc] w fun e w' => e = .returned (.slice (some ⟨g, 0, none⟩) (n + 1) cap) ∧
      ∃ cur' : Array Value, w'.heap[g]? = some (.cells cur' 41 (0, 0)) ∧ cur'.size = cap * 3 ∧ cur'.toList.take ((n + 1) * 3) = cur.toList.take ((i * 3)) ++ vs ++ (cur.toList.take (n * 3)).drop ((i * 3)) ∧ w.grownBy w' (some g) := by
  obtain ⟨hu, inf, hin, his⟩ := elemOk_spec (P := Try.prog) (T := 22) (e := 41) (t := (.st (.cons (.int .i64) (.cons (.int .i64) (.int .i64))))) (by kernel_rfl)
  have his : inf.size = 3 := his
  have hszE : ∀ w : World, (Go.sizeOf 41).run Try.prog w = .ok 3 w := fun w => by simp [sizeOf, typeInfo, hin, his]
  have hov : ∀ o lb cb, (callFunc 40 #[.slice (some ⟨vb, voff, none⟩) 1 vc, .slice (some ⟨g, o, none⟩) lb cb]).run Try.prog w = .ok (.value (.bool false)) w := fun o lb cb => by
    rw [run_callFunc_extern Try.func40 (by kernel_rfl) (by kernel_rfl) (by kernel_rfl) (e := Extern.SlicesOverlaps.overlaps #[22, 22] #[4]) (by kernel_rfl),
      Lib.run_overlaps_apart w 22 4 41 hu 3 hszE ⟨vb, voff, none⟩ ⟨g, o, none⟩ 1 vc lb cb hne ev 41 curv.size cur.size (by simp [World.shape?, hgv]) (by simp [World.shape?, hg]) (by omega) (by simp [World.frozen?, hgv]) (by simp [World.frozen?, hgv])]
    rfl
  obtain ⟨C, hC⟩ : ∃ C, C = cur.toList.take (n * 3) := ⟨_, rfl⟩
  have hCl : C.length = n * 3 := by rw [hC, List.length_take, Array.length_toList]; omega
  rw [← hC] at h1c ⊢
  have hCat : ∀ k v, C[k]? = some v → cur[k]? = some v := fun k v h => by
    rw [hC, List.getElem?_take] at h
    split at h
    · simpa using h
    · cases h
  obtain ⟨c1, hc1⟩ : ∃ c1 : Array Value, c1 = (cur.toList.take (((i + 1) * 3)) ++ C.drop ((i * 3)) ++ cur.toList.drop (((i + 1) * 3) + (C.drop ((i * 3))).length)).toArray := ⟨_, rfl⟩
  have hgD : w.drew.heap[g]? = some (.cells cur 41 (0, 0)) := hg
  have hcp1 : ∀ ty dc sc, (Builtin.copy_ #[22, 22] ty #[.slice (some ⟨g, ((i + 1) * 3), none⟩) (n - i) dc, .slice (some ⟨g, (i * 3), none⟩) (n + 1 - i) sc]).run Try.prog w.drew = .ok (goInt (Nat.min (n + 1 - i) (n - i) : Nat)) (w.drew.setRow g c1) := fun ty dc sc => by
    rw [hc1]
    exact run_copy_sized (P := Try.prog) (w := w.drew) (T' := 22) (ty := ty) (oc := id) hu hin his (o := ((i + 1) * 3)) (dLen := n - i) (dCap := dc) (sLen := n + 1 - i) (sCap := sc) (a := ⟨g, (i * 3), none⟩) (cs := C.drop ((i * 3))) hgD
      (by rw [List.length_drop, hCl, show Nat.min (n + 1 - i) (n - i) = n - i from Nat.min_eq_right (by omega)]; omega)
      (fun j v hj => by
        rw [List.getElem?_drop] at hj
        have := hCat _ _ hj
        rw [Addr.add_lit]
        simp [World.cell?, hgD, this])
      (by rw [List.length_drop, hCl, hcs]; omega) (fun v hv => h1c v (List.mem_of_mem_drop hv))
  have hc1s : c1.size = cap * 3 := by
    rw [hc1]; simp only [List.size_toArray, List.length_append, List.length_take, List.length_drop, Array.length_toList, hCl, hcs]; omega
  have hg1 : (w.drew.setRow g c1).heap[g]? = some (.cells c1 41 (0, 0)) := setRow_heap _ _ _ _ _ _ hgD
  obtain ⟨c2, hc2⟩ : ∃ c2 : Array Value, c2 = (c1.toList.take ((i * 3)) ++ vs ++ c1.toList.drop ((i * 3) + vs.length)).toArray := ⟨_, rfl⟩
  have hcp2 : ∀ ty dc, (Builtin.copy_ #[22, 22] ty #[.slice (some ⟨g, (i * 3), none⟩) (n + 1 - i) dc, .slice (some ⟨vb, voff, none⟩) 1 vc]).run Try.prog (w.drew.setRow g c1) = .ok (goInt (Nat.min 1 (n + 1 - i) : Nat)) ((w.drew.setRow g c1).setRow g c2) := fun ty dc => by
    rw [hc2]
    exact run_copy_sized (P := Try.prog) (w := w.drew.setRow g c1) (T' := 22) (ty := ty) (oc := id) hu hin his (o := (i * 3)) (dLen := n + 1 - i) (dCap := dc) (sLen := 1) (sCap := vc) (a := ⟨vb, voff, none⟩) (cs := vs) hg1
      (by rw [hvl, show Nat.min 1 (n + 1 - i) = 1 from Nat.min_eq_left (by omega)])
      (fun j v hj => by
        have := hvs j v hj
        rwa [World.cell?_of_block (w := w) (a := (⟨vb, voff, none⟩ : Addr).add j) (by rw [Addr.add_lit, setRow_other _ _ _ _ hne]; rfl)])
      (by rw [hvl, hc1s]; omega) h1
  have a1 : (cur.toList.take ((i + 1) * 3)).length = ((i + 1) * 3) := by rw [List.length_take, Array.length_toList]; omega
  have e1 : c1.toList.take (i * 3) = cur.toList.take (i * 3) := by
    rw [hc1, List.append_assoc, List.take_append_of_le_length (by omega), List.take_take, Nat.min_eq_left (by omega)]
  have e2 : c1.toList.drop ((i * 3) + vs.length) = C.drop (i * 3) ++ cur.toList.drop (((i + 1) * 3) + (C.drop (i * 3)).length) := by
    rw [hc1, hvl, show (i * 3) + 3 = ((i + 1) * 3) by omega, List.append_assoc]
    exact List.drop_left' a1
  have hc2s : c2.size = cap * 3 := by
    rw [hc2]; simp only [List.size_toArray, List.length_append, List.length_take, List.length_drop, Array.length_toList, hvl, hc1s]; omega
  have hc2t : c2.toList.take ((n + 1) * 3) = cur.toList.take (i * 3) ++ vs ++ C.drop (i * 3) := by
    rw [hc2, e1, e2, ← List.append_assoc]
    refine List.take_left' ?_
    simp only [List.length_append, List.length_take, List.length_drop, Array.length_toList, hvl, hCl]; omega
  have mixed : Try.prog.follows Departure.mixedOrders = true := by kernel_rfl
  have hw1 : IntKind.i64.wrap ((i : Int) + 1) = (i : Int) + 1 := by rw [IntKind.wrap_i64]; omega
  have hb1 : (0 : Int) ≤ (i : Int) + 1 := by omega
  have hin' : i ≤ n := by omega
  have htn : ((i : Int) + 1).toNat = i + 1 := by omega
  have hb2 : ¬ (cap = i + 1) := by omega
  have hb3 : (i : Int) ≤ (n : Int) + 1 := by omega
  have hb4 : ¬ (cap = i) := by omega
  clear hc1 hc2
  go_enter Try.func31, Try.ntmps31
  go_wp2_with (simp only [hov])
  go_region_law_o (refine step_copyI rfl _ _ 22 22 rfl _ _ (by simp [Act.eval, Act.put]) (by simp [Act.eval, Act.put]) (hcp1 _ _ _) ?_)
  go_wp2_with (at_builtin; refine wpList_copyI _ rfl _ _ 22 22 rfl _ _ rfl rfl (hcp2 _ _) ?_)
  go_ret
  refine ⟨rfl, c2, setRow_heap _ _ _ _ _ _ hg1, hc2s, hc2t, ⟨rfl, rfl, rfl, by simp, fun k hk hn => ?_⟩⟩
  have hkg : k ≠ g := fun e => hn (by rw [e])
  rw [setRow_other _ _ _ _ hkg, setRow_other _ _ _ _ hkg]; rfl
set_option maxHeartbeats 4000000 in
set_option maxRecDepth 100000 in
/-- In the middle, where there is no room. -/
theorem insLoan_grow {w : World} {g n cap i : Nat} {cur : Array Value} (hg : w.heap[g]? = some (.cells cur 41 (0, 0))) (hcs : cur.size = cap * 3) (hnc : n ≤ cap) (hroom : cap < n + 1) (hcap : cap ≤ 9223372036854775807) (hi : i < n) (hbig : (n + 1) * 24 ≤ 140737488355328) (h1c : ∀ u ∈ cur.toList.take (n * 3), u.oneCell' = true)
    {vs : List Value} {vb voff vc : Nat} (hvl : vs.length = 3) (hvs : ∀ j u, vs[j]? = some u → w.cell? ((⟨vb, voff, none⟩ : Addr).add j) = some u) (h1 : ∀ u ∈ vs, u.oneCell' = true) (hvw : vb < w.heap.size) :
    Calls Try.prog 31 #[.slice (some ⟨g, 0, none⟩) n cap, .int .i64 i, .slice (some ⟨vb, voff, none⟩) 1 vc] w fun e w' => ∃ c', e = .returned (.slice (some ⟨w.heap.size, 0, none⟩) (n + 1) c') ∧
      ∃ cur' : Array Value, w'.heap[w.heap.size]? = some (.cells cur' 41 (0, 0)) ∧ (n + 1 ≤ c' ∧ c' ≤ maxLen) ∧ cur'.size = c' * 3 ∧ cur'.toList.take ((n + 1) * 3) = cur.toList.take (i * 3) ++ vs ++ (cur.toList.take (n * 3)).drop (i * 3) ∧ w.grownBy w' none := by
  obtain ⟨hu, inf, hin, his⟩ := elemOk_spec (P := Try.prog) (T := 22) (e := 41) (t := (.st (.cons (.int .i64) (.cons (.int .i64) (.int .i64))))) (by kernel_rfl)
  have his : inf.size = 3 := his
  obtain ⟨i', z, hi', hz', hrd⟩ := zeroIs_spec (P := Try.prog) (T := 41) (t := (.st (.cons (.int .i64) (.cons (.int .i64) (.int .i64))))) (by kernel_rfl)
  rw [hin] at hi'; injection hi' with hi'; subst hi'
  have hzs : z.cells.size = 3 := by have := (hrd w (fun _ => False)).len; simpa [Ty.size] using this
  have hby : (Try.prog.info? 41).map (·.bytes) = some 24 := by kernel_rfl
  rw [hin] at hby
  simp only [Option.map_some, Option.some.injEq] at hby
  obtain ⟨C, hC⟩ : ∃ C, C = cur.toList.take (n * 3) := ⟨_, rfl⟩
  have hCl : C.length = n * 3 := by rw [hC, List.length_take, Array.length_toList]; omega
  rw [← hC] at h1c ⊢
  have hCat : ∀ k v, C[k]? = some v → cur[k]? = some v := fun k v h => by
    rw [hC, List.getElem?_take] at h
    split at h
    · simpa using h
    · cases h
  have hgw : g < w.heap.size := lt_of_block hg
  have hold : (Builtin.firstCells inf.size i (.slice (some ⟨g, 0, none⟩) i cap)).run Try.prog w.drew = .ok (cur.toList.take (i * 3)).toArray w.drew := by
    rw [his]
    exact run_firstCells_some w.drew 3 i ⟨g, 0, none⟩ i cap (cur.toList.take (i * 3)) (by rw [List.length_take, Array.length_toList]; omega) (fun j v hj => by
      rw [Addr.add_lit]
      rw [List.getElem?_take] at hj
      split at hj
      · have : w.drew.heap[g]? = some (.cells cur 41 (0, 0)) := hg
        have hj : cur[j]? = some v := by simpa using hj
        simp [World.cell?, this, hj]
      · cases hj)
  have hrz : ∀ ty, (Builtin.append_ #[22, 3] ty #[.slice (some ⟨g, 0, none⟩) i cap, .int .i64 ((n : Int) + 1 - (i : Int))]).run Try.prog w = .ok (.slice (some ⟨w.heap.size, 0, none⟩) (n + 1) (grownCap w (n + 1) cap 41)) (w.drew.alloc (.cells ((cur.toList.take (i * 3)).toArray ++ Builtin.zeroCells z.cells (n + 1 - i) ++ Builtin.zeroCells z.cells (grownCap w (n + 1) cap 41 - (n + 1))) 41)) := fun ty => by
    have h := Lib.run_append_grow_zeros w 22 3 ty 41 inf z .i64 .i64 hu Try.underlying3 hin hz' (some ⟨g, 0, none⟩) i cap (cur.toList.take (i * 3)) hold (n + 1 - i) (by omega) (by omega) (by omega) (by omega) (by rw [hby]; omega) (by rw [hby, show i + (n + 1 - i) = n + 1 by omega]; exact growslice_fits hroom hbig)
    rw [show i + (n + 1 - i) = n + 1 by omega] at h
    rw [show (n : Int) + 1 - (i : Int) = ((n + 1 - i : Nat) : Int) by omega]
    exact h
  obtain ⟨G, hG⟩ : ∃ G, G = grownCap w (n + 1) cap 41 := ⟨_, rfl⟩
  obtain ⟨R0, hR0⟩ : ∃ R0 : Array Value, R0 = (cur.toList.take (i * 3)).toArray ++ Builtin.zeroCells z.cells (n + 1 - i) ++ Builtin.zeroCells z.cells (G - (n + 1)) := ⟨_, rfl⟩
  rw [← hG] at hrz
  rw [← hR0] at hrz
  have hGn : n + 1 ≤ G := by rw [hG]; exact grownCap_ge w _ _ _
  have hGm : G ≤ maxLen := by rw [hG]; exact grownCap_le_maxLen w (n + 1) cap 41 (by unfold maxLen; omega)
  have hG63 : G ≤ 9223372036854775807 := by unfold maxLen at hGm; omega
  have hz0 : ∀ k, (Builtin.zeroCells z.cells k).size = k * 3 := fun k => by simp [Builtin.zeroCells, hzs]
  have hR0s : R0.size = G * 3 := by
    rw [hR0]; simp only [Array.size_append, List.size_toArray, List.length_take, Array.length_toList, hz0]; omega
  have hR0t : R0.toList.take (i * 3) = cur.toList.take (i * 3) := by
    rw [hR0, Array.append_assoc, Array.toList_append]
    exact List.take_left' (by rw [List.length_take, Array.length_toList]; omega)
  obtain ⟨W1, hW1⟩ : ∃ W1, W1 = w.drew.alloc (.cells R0 41) := ⟨_, rfl⟩
  rw [← hW1] at hrz
  have hN1 : W1.heap[w.heap.size]? = some (.cells R0 41 (0, 0)) := by rw [hW1]; exact (Array.getElem?_push_size ..)
  have hO1 : ∀ b, b < w.heap.size → W1.heap[b]? = w.heap[b]? := fun b hb => by rw [hW1]; exact Below.heap_alloc w _ b hb
  obtain ⟨r1, hr1⟩ : ∃ r1 : Array Value, r1 = (R0.toList.take (i * 3) ++ vs ++ R0.toList.drop ((i * 3) + vs.length)).toArray := ⟨_, rfl⟩
  have hcpA : ∀ (W : World), (∀ b : Nat, W.heap[b]? = W1.heap[b]?) → ∀ ty dc, (Builtin.copy_ #[22, 22] ty #[.slice (some ⟨w.heap.size, (i * 3), none⟩) (n + 1 - i) dc, .slice (some ⟨vb, voff, none⟩) 1 vc]).run Try.prog W = .ok (goInt (Nat.min 1 (n + 1 - i) : Nat)) (W.setRow w.heap.size r1) := fun W hW ty dc => by
    rw [hr1]
    exact run_copy_sized (P := Try.prog) (w := W) (T' := 22) (ty := ty) (oc := id) hu hin his (o := (i * 3)) (dLen := n + 1 - i) (dCap := dc) (sLen := 1) (sCap := vc) (a := ⟨vb, voff, none⟩) (cs := vs) (by rw [hW]; exact hN1)
      (by rw [hvl, show Nat.min 1 (n + 1 - i) = 1 from Nat.min_eq_left (by omega)])
      (fun j v hj => by
        have := hvs j v hj
        rwa [World.cell?_of_block (w := w) (a := (⟨vb, voff, none⟩ : Addr).add j) (by rw [Addr.add_lit, hW]; exact hO1 _ hvw)])
      (by rw [hvl, hR0s]; omega) h1
  have hr1s : r1.size = G * 3 := by
    rw [hr1]; simp only [List.size_toArray, List.length_append, List.length_take, List.length_drop, Array.length_toList, hvl, hR0s]; omega
  have hr1t : r1.toList.take ((i + 1) * 3) = cur.toList.take (i * 3) ++ vs := by
    rw [hr1, hR0t]
    refine List.take_left' ?_
    simp only [List.length_append, List.length_take, Array.length_toList, hvl]; omega
  obtain ⟨r2, hr2⟩ : ∃ r2 : Array Value, r2 = (r1.toList.take ((i + 1) * 3) ++ C.drop (i * 3) ++ r1.toList.drop (((i + 1) * 3) + (C.drop (i * 3)).length)).toArray := ⟨_, rfl⟩
  have hcpB : ∀ (W : World), (∀ b : Nat, W.heap[b]? = (W1.setRow w.heap.size r1).heap[b]?) → ∀ ty dc sc, (Builtin.copy_ #[22, 22] ty #[.slice (some ⟨w.heap.size, ((i + 1) * 3), none⟩) (n - i) dc, .slice (some ⟨g, (i * 3), none⟩) (n - i) sc]).run Try.prog W = .ok (goInt (Nat.min (n - i) (n - i) : Nat)) (W.setRow w.heap.size r2) := fun W hW ty dc sc => by
    rw [hr2]
    exact run_copy_sized (P := Try.prog) (w := W) (T' := 22) (ty := ty) (oc := id) hu hin his (o := ((i + 1) * 3)) (dLen := n - i) (dCap := dc) (sLen := n - i) (sCap := sc) (a := ⟨g, (i * 3), none⟩) (cs := C.drop (i * 3)) (by rw [hW]; exact setRow_heap _ _ _ _ _ _ hN1)
      (by rw [List.length_drop, hCl, show Nat.min (n - i) (n - i) = n - i from Nat.min_self _]; omega)
      (fun j v hj => by
        rw [List.getElem?_drop] at hj
        have := hCat _ _ hj
        rw [World.cell?_of_block (w := w) (a := (⟨g, (i * 3), none⟩ : Addr).add j) (by rw [Addr.add_lit, hW, setRow_other _ _ _ _ (by dsimp only; omega)]; exact hO1 _ hgw), Addr.add_lit]
        simp [World.cell?, hg, this])
      (by rw [List.length_drop, hCl, hr1s]; omega) (fun v hv => h1c v (List.mem_of_mem_drop hv))
  have hr2s : r2.size = G * 3 := by
    rw [hr2]; simp only [List.size_toArray, List.length_append, List.length_take, List.length_drop, Array.length_toList, hCl, hr1s]; omega
  have hr2t : r2.toList.take ((n + 1) * 3) = cur.toList.take (i * 3) ++ vs ++ C.drop (i * 3) := by
    rw [hr2, hr1t]
    refine List.take_left' ?_
    simp only [List.length_append, List.length_take, List.length_drop, Array.length_toList, hvl, hCl]; omega
  have hfin : ∀ W : World, W.heap[w.heap.size]? = some (.cells r2 41 (0, 0)) → (∀ b, b < w.heap.size → W.heap[b]? = w.heap[b]?) → W.os = w.os → W.tape = w.tape → W.output = w.output → w.heap.size ≤ W.heap.size →
      ∃ c', Ending.returned (.slice (some ⟨w.heap.size, 0, none⟩) (n + 1) G) = .returned (.slice (some ⟨w.heap.size, 0, none⟩) (n + 1) c') ∧ ∃ cur' : Array Value, W.heap[w.heap.size]? = some (.cells cur' 41 (0, 0)) ∧ (n + 1 ≤ c' ∧ c' ≤ maxLen) ∧ cur'.size = c' * 3 ∧ cur'.toList.take ((n + 1) * 3) = cur.toList.take (i * 3) ++ vs ++ C.drop (i * 3) ∧ w.grownBy W none := fun W q1 q2 q3 q4 q5 q6 =>
    ⟨G, rfl, r2, q1, ⟨hGn, hGm⟩, hr2s, hr2t, ⟨q3, q4, q5, q6, fun k hk _ => q2 k hk⟩⟩
  have hN2 : (W1.setRow w.heap.size r1).heap[w.heap.size]? = some (.cells r1 41 (0, 0)) := setRow_heap _ _ _ _ _ _ hN1
  have mixed : Try.prog.follows Departure.mixedOrders = true := by kernel_rfl
  have hw1 : IntKind.i64.wrap ((i : Int) + 1) = (i : Int) + 1 := by rw [IntKind.wrap_i64]; omega
  have hb1 : (0 : Int) ≤ (i : Int) + 1 := by omega
  have hin' : i ≤ n := by omega
  have htn : ((i : Int) + 1).toNat = i + 1 := by omega
  have hb3 : (i : Int) ≤ (n : Int) := by omega
  have hb5 : (i : Int) ≤ (n : Int) + 1 := by omega
  have hz3 : (cap : Int) < (n : Int) + 1 := by omega
  have hGi : ¬ (G = i) := by omega
  have hGim : ¬ (G = i + 1) := by omega
  have hci : ¬ (cap = i) := by omega
  subst hW1
  have hE : ∀ b : Nat, ((w.alloc (.cells R0 41)).drew).heap[b]? = (w.drew.alloc (.cells R0 41)).heap[b]? := fun _ => rfl
  have hF : ∀ b : Nat, (((w.alloc (.cells R0 41)).drew.setRow w.heap.size r1).drew).heap[b]? = ((w.drew.alloc (.cells R0 41)).setRow w.heap.size r1).heap[b]? := fun _ => rfl
  clear hr1 hr2 hR0 hG hold
  go_enter Try.func31, Try.ntmps31
  go_wp2_with (first
    | (at_builtin; refine Lib.wpList_append_run _ rfl _ _ _ _ rfl _ _ rfl rfl _ _ (hrz _) ?_)
    | (at_builtin; refine wpList_copyI _ rfl _ _ 22 22 rfl _ _ rfl rfl (hcpA _ hE _ _) ?_))
  go_region_law_o (refine step_copyI rfl _ _ 22 22 rfl (.slice (some ⟨w.heap.size, ((i + 1) * 3), none⟩) (n - i) (G - (i + 1))) (.slice (some ⟨g, (i * 3), none⟩) (n - i) (cap - i)) (by simp [Act.eval, Act.put]) (by simp [Act.eval, Act.put]) (hcpB _ hF 3 (G - (i + 1)) (cap - i)) ?_)
  go_wp2
  go_ret
  refine hfin _ ?_ ?_ rfl rfl rfl ?_
  · exact setRow_heap _ _ _ _ _ _ hN2
  · intro b hb
    rw [setRow_other _ _ _ _ (by omega)]
    refine Eq.trans ?_ (hO1 b hb)
    exact setRow_other _ _ _ _ (by omega)
  · simp
def insF {α : Type} (x : List α) (i : Nat) (v : List α) : List α := x.take i ++ v ++ x.drop i
def entInsLoan : Ent := ⟨31, .cons (.sl (.st (.cons (.int .i64) (.cons (.int .i64) (.int .i64))))) (.cons (.int .i64) (.cons (.sl (.st (.cons (.int .i64) (.cons (.int .i64) (.int .i64))))) .nil)), .sl (.st (.cons (.int .i64) (.cons (.int .i64) (.int .i64)))), true, some 41, fun x => (0 ≤ (x.2.1 : Int) ∧ (x.2.1 : Int) ≤ List.length (α := (Int × Int × Int)) x.1) ∧ List.length (α := (Int × Int × Int)) x.2.2.1 = 1 ∧ List.length (α := (Int × Int × Int)) x.1 ≤ 1000000, fun x => insF (α := (Int × Int × Int)) x.1 (x.2.1 : Int).toNat x.2.2.1⟩
theorem conInsLoan : Con Try.prog entInsLoan := by
  unfold Con
  rw [if_pos (by rfl)]
  refine ⟨by kernel_rfl, ?_⟩
  rintro (x : List (Int × Int × Int)) ⟨(n : Int), (v : List (Int × Int × Int)), _⟩ ⟨⟨h0, h1⟩, hv1, hsm⟩ w M u us cells hM hMu hown hrow hargs hplain
  have h0 : 0 ≤ n := h0
  have h1 : n ≤ x.length := h1
  obtain ⟨i, rfl⟩ : ∃ i : Nat, n = i := ⟨n.toNat, by omega⟩
  obtain ⟨u1, us1, rfl, hu1, u2, us2, rfl, hu2, rfl⟩ := hargs
  obtain ⟨rfl, _⟩ := avr_int (P := Try.prog) (hp := fun _ => none) (ψ := fun _ => undef) hu1
  have hv1 : v.length = 1 := hv1
  have hsm : x.length ≤ 1000000 := hsm
  have hu2' : RdV Try.prog (.sl (.st (.cons (.int .i64) (.cons (.int .i64) (.int .i64))))) w M v u2 := hu2
  obtain ⟨A2, k2, c2, e2, hlen2, hkc2, hcm2, hd2⟩ := (RdV.one (t := .sl (.st (.cons (.int .i64) (.cons (.int .i64) (.int .i64))))) hu2' rfl rfl).1
  simp only [List.cons.injEq, and_true] at e2
  subst e2
  have hk2 : k2 = 1 := by rw [← hlen2]; exact hv1
  subst hk2
  rcases hd2 with hd2 | ⟨vb, voff, vs, rfl, hvw, hvM, hvc, hvr⟩
  · cases hd2
  have hvl : vs.length = 3 := by
    have := RowsBy.len (n := 3) (fun (d : (Int × Int × Int)) c (q : Rd Try.prog (.st (.cons (.int .i64) (.cons (.int .i64) (.int .i64)))) w M d c) => q.len) hvr
    rw [hv1] at this; omega
  have hvs : ∀ j u, vs[j]? = some u → w.cell? ((⟨vb, voff, none⟩ : Addr).add j) = some u := fun j u h => by rw [Addr.add_lit]; exact hvc j u h
  have hone : ∀ {zs : List (Int × Int × Int)} {cs : List Value}, RowsBy (fun x c => Rd Try.prog (.st (.cons (.int .i64) (.cons (.int .i64) (.int .i64)))) w M x c) zs cs → ∀ u ∈ cs, u.oneCell' = true := by
    intro zs
    induction zs with
    | nil => intro cs h u hu; obtain rfl : cs = [] := h; simp at hu
    | cons z r ih =>
      rintro cs ⟨c1, c2, rfl, q1, q2⟩ u hu
      rcases List.mem_append.1 hu with hu | hu
      · exact Rd.one q1 u hu
      · exact ih q2 u hu
  have h1v := hone hvr
  have h1c := hone hrow
  have hcl : cells.length = x.length * 3 := hown.1
  obtain ⟨r1, r2, er, hr1, hr2⟩ := RowsBy.split (xs := x.take i) (ys := x.drop i) (by rw [List.take_append_drop]; exact hrow)
  have hr1l : r1.length = (i * 3) := by
    have := RowsBy.len (n := 3) (fun (d : (Int × Int × Int)) c (q : Rd Try.prog (.st (.cons (.int .i64) (.cons (.int .i64) (.int .i64)))) w M d c) => q.len) hr1
    rw [List.length_take] at this; omega
  have hrows : RowsBy (fun x c => Rd Try.prog (.st (.cons (.int .i64) (.cons (.int .i64) (.int .i64)))) w M x c) (insF x i v) (cells.take (i * 3) ++ vs ++ cells.drop (i * 3)) := by
    unfold insF
    have t1 : cells.take (i * 3) = r1 := by rw [er]; exact List.take_left' hr1l
    have t2 : cells.drop (i * 3) = r2 := by rw [er]; exact List.drop_left' hr1l
    rw [t1, t2]
    exact (hr1.append hvr).append hr2
  have hFl : (insF x i v).length = x.length + 1 := by unfold insF; simp only [List.length_append, List.length_take, List.length_drop, hv1]; omega
  obtain ⟨hne, curv, ev, hgv⟩ := hplain (.slice (some ⟨vb, voff, none⟩) 1 c2) (by simp) vb rfl
  show Calls Try.prog 31 #[u, .int .i64 i, .slice (some ⟨vb, voff, none⟩) 1 c2] w fun en w' => ∃ v' cells', en = .returned v' ∧ w'.ownsRow 0 41 3 v' (insF x (Int.toNat i) v).length cells' ∧ RowsBy (fun x c => Rd Try.prog (.st (.cons (.int .i64) (.cons (.int .i64) (.int .i64)))) w M x c) (insF x (Int.toNat i) v) cells' ∧ w.grownBy w' u.ownBlock ∧ (blk v' = blk u ∨ ∃ g, blk v' = some g ∧ w.heap.size ≤ g)
  rw [Int.toNat_natCast, hFl]
  have hown' : w.ownsRow 0 41 3 u x.length cells := hown
  by_cases hi : i = x.length
  · subst hi
    refine Calls.mono (insLoan_end (v := u) hown' (vb := vb) (voff := voff) (vc := c2) hvl hvs h1v (by omega)) ?_
    rintro en w' ⟨v', rfl, k1, k2, k3⟩
    obtain ⟨A, cX, eX⟩ := ownsRow_slice hown'
    obtain ⟨A', cX', eX'⟩ := ownsRow_slice k1
    refine ⟨v', _, rfl, k1, ?_, k2, ?_⟩
    · have t1 : ∀ k, k = x.length * 3 → cells.take k ++ vs ++ cells.drop k = cells ++ vs := fun k e => by
        rw [List.take_of_length_le (by omega), List.drop_of_length_le (by omega), List.append_nil]
      rw [t1 _ (by omega)] at hrows
      exact hrows
    · rw [blk_own eX', blk_own eX]; exact k3
  · have hin : i < x.length := by omega
    rcases hown'.2 with ⟨_, q⟩ | ⟨g, cap, cur, rfl, _, hg, hnc, hcap, hcs, htk⟩
    · omega
    have hcap' : cap ≤ 9223372036854775807 := hcap
    have htk2 : cur.toList.take (i * 3) = cells.take (i * 3) := by rw [← htk, List.take_take, Nat.min_eq_left (by omega)]
    have hbne : vb ≠ g := fun e => hne (by rw [e]; rfl)
    by_cases hroom : x.length + 1 ≤ cap
    · refine Calls.mono (insLoan_shift hg hcs hroom hcap' hin (by rw [htk]; exact h1c) hvl hvs h1v (vc := c2) hgv hbne) ?_
      rintro en w' ⟨rfl, cur', k1, k2, k3, k4⟩
      rw [htk, htk2] at k3
      exact ⟨_, _, rfl, ⟨by simp only [List.length_append, List.length_take, List.length_drop, hvl, hcl]; omega, .inr ⟨g, cap, cur', rfl, Nat.zero_le _, k1, hroom, hcap, k2, k3⟩⟩, hrows, k4, .inl rfl⟩
    · refine Calls.mono (insLoan_grow hg hcs hnc (by omega) hcap' hin (by omega) (by rw [htk]; exact h1c) hvl hvs h1v (vc := c2) hvw) ?_
      rintro en w' ⟨c', rfl, cur', k1, ⟨k5, k6⟩, k2, k3, k4⟩
      rw [htk, htk2] at k3
      exact ⟨_, _, rfl, ⟨by simp only [List.length_append, List.length_take, List.length_drop, hvl, hcl]; omega, .inr ⟨w.heap.size, c', cur', rfl, Nat.zero_le _, k1, k5, k6, k2, k3⟩⟩, hrows, ⟨k4.os, k4.tape, k4.output, k4.size, fun k hk _ => k4.block k hk (by simp)⟩, .inr ⟨_, rfl, Nat.le_refl _⟩⟩
end T
end Go.Proofs.Ytbbpiihbhdagnaa
