/- slices.Delete at a row of the caller's own, by the walk of the plain calculus. -/
import Derived.Test.YtbbpiihbhdagnaaInsL
import Derived.Laws.AppendOwn
namespace Go.Proofs.Ytbbpiihbhdagnaa
set_option linter.unusedVariables false
set_option linter.unusedSimpArgs false
open Go.RowKit Go.Lib
namespace T
theorem step_appI {P : Program} {ops : Array Oper} {o : Oper} {a : Act} {w : World} {K : Act → World → Prop} {Q : Exit → Act → World → Prop} {E : Prop}
    (hg : o.guard = none) (d x : Operand) (dT sT : TypeId) (hop : o.op = Op.call { callee := Callee.builtin Builtin.append, args := #[d, x], argTypes := #[dT, sT] })
    (v u : Value) (hd : a.eval d = v) (hx : a.eval x = u) {v' : Value} {w' : World} (hr : (Builtin.append_ #[dT, sT] o.type #[v, u]).run P w = .ok v' w') (hK : K (a.put o.dst v') w') :
    if Region.wanted o (yielded ops a.tmps) = true then Oper.wp P o a w K Q else E := by
  have hw : Region.wanted o (yielded ops a.tmps) = true := by simp [Region.wanted, hg]
  rw [if_pos hw]
  unfold Oper.wp
  simp [execOp, hop, resolve, invoke, builtin, hd, hx, hr, Result.andThen]
  exact hK
theorem wpList_clearI (w : World) {P : Program} {ops : Array Oper} {rest : List Oper} {o : Oper} {a : Act} {Q : Exit → Act → World → Prop} (hgd : o.guard = none) (d : Operand) (t : TypeId)
    (ho : o.op = .call { callee := .builtin .clear, args := #[d], argTypes := #[t] }) (v : Value) (hd : a.eval d = v) {v' : Value} {w' : World}
    (hr : (Builtin.clear_ #[t] o.type #[v]).run P w = .ok v' w') (h : wpList P ops Q rest (a.put o.dst v') w') : wpList P ops Q (o :: rest) a w :=
  wpList_plain hgd fun _ hK => by
    unfold Oper.wp execOp
    simp only [ho, resolve, invoke, builtin, Sem.run_bind, Sem.run_pure, Result.andThen_ok, List.map_toArray, List.map_cons, List.map_nil, hd, hr]
    exact hK _ _ h
theorem run_clear_sized {P : Program} (w : World) (t e ty : TypeId) (z : Value) (ht : P.underlying t = some (.slice e)) (hv : ∀ w, (zeroValue e).run P w = .ok z w) (g o n c : Nat) (cur : Array Value) (hg : w.heap[g]? = some (.cells cur e (0, 0))) (hn : 0 < n)
    (h1 : ∀ u ∈ (Builtin.zeroCells z.cells n).toList, u.oneCell' = true) (hfit : o + n * z.cells.size ≤ cur.size) :
    (Builtin.clear_ #[t] ty #[.slice (some ⟨g, o, none⟩) n c]).run P w = .ok (.tuple #[]) (w.setRow g (cur.toList.take o ++ (Builtin.zeroCells z.cells n).toList ++ cur.toList.drop (o + (Builtin.zeroCells z.cells n).toList.length)).toArray) := by
  have hst := run_storeCells_at P g o e (Builtin.zeroCells z.cells n).toList 0 cur w hg (by simpa [Builtin.zeroCells] using hfit) h1
  simp only [Nat.add_zero] at hst
  obtain ⟨m, rfl⟩ : ∃ m, n = m + 1 := ⟨n - 1, by omega⟩
  simp [Builtin.clear_, run_underlying ht, hv] at hst ⊢
  simp [hst]
set_option maxHeartbeats 4000000 in
set_option maxRecDepth 100000 in
theorem delLoan_run {w : World} {g n cap i j : Nat} {cur : Array Value} (hg : w.heap[g]? = some (.cells cur 41 (0, 0))) (hcs : cur.size = cap * 3) (hnc : n ≤ cap) (hcap : cap ≤ 9223372036854775807) (hij : i < j) (hj : j ≤ n) (h1c : ∀ u ∈ cur.toList.take (n * 3), u.oneCell' = true) :
    Calls Try.prog 33 #[.slice (some ⟨g, 0, none⟩) n cap, .int .i64 i, .int .i64 j] w fun e w' => e = .returned (.slice (some ⟨g, 0, none⟩) (i + (n - j)) cap) ∧
      ∃ cur' : Array Value, w'.heap[g]? = some (.cells cur' 41 (0, 0)) ∧ cur'.size = cap * 3 ∧ cur'.toList.take ((i + (n - j)) * 3) = cur.toList.take (i * 3) ++ (cur.toList.take (n * 3)).drop (j * 3) ∧ w.grownBy w' (some g) := by
  obtain ⟨hu, inf, hin, his⟩ := elemOk_spec (P := Try.prog) (T := 22) (e := 41) (t := (.st (.cons (.int .i64) (.cons (.int .i64) (.int .i64))))) (by kernel_rfl)
  have his : inf.size = 3 := his
  obtain ⟨i', z, hi', hz', hrd⟩ := zeroIs_spec (P := Try.prog) (T := 41) (t := (.st (.cons (.int .i64) (.cons (.int .i64) (.int .i64))))) (by kernel_rfl)
  rw [hin] at hi'; injection hi' with hi'; subst hi'
  have hzs : z.cells.size = 3 := by have := (hrd w (fun _ => False)).len; simpa [Ty.size] using this
  have hzv : ∀ w : World, (zeroValue 41).run Try.prog w = .ok z w := fun w => by simp [zeroValue, typeInfo, hin, hz']
  have hz1 : ∀ k, ∀ u ∈ (Builtin.zeroCells z.cells k).toList, u.oneCell' = true := fun k u hu => by
    unfold Builtin.zeroCells at hu
    rw [Array.mem_toList_iff, Array.mem_map] at hu
    obtain ⟨i, _, rfl⟩ := hu
    have hlt : i % z.cells.size < z.cells.size := Nat.mod_lt _ (by omega)
    rw [getElem!_pos z.cells _ hlt]
    exact Rd.one (hrd w (fun _ => False)) _ (by simp)
  obtain ⟨C, hC⟩ : ∃ C, C = (cur.toList.take (n * 3)).drop (j * 3) := ⟨_, rfl⟩
  have hCl : C.length = (n - j) * 3 := by rw [hC, List.length_drop, List.length_take, Array.length_toList]; omega
  have hC1 : ∀ u ∈ C, u.oneCell' = true := fun u hu => h1c u (by rw [hC] at hu; exact List.mem_of_mem_drop hu)
  rw [← hC]
  have hgD : w.drew.heap[g]? = some (.cells cur 41 (0, 0)) := hg
  obtain ⟨A, hA, hsrc⟩ : ∃ A : Addr, (if cap = j then some (⟨g, 0, none⟩ : Addr) else some ⟨g, j * 3, none⟩) = some A ∧ Hid (∀ t u, C[t]? = some u → w.drew.cell? (A.add t) = some u) := by
    by_cases h : cap = j
    · refine ⟨⟨g, 0, none⟩, by simp [h], fun t u hu => ?_⟩
      have : C = [] := List.eq_nil_of_length_eq_zero (by omega)
      rw [this] at hu; simp at hu
    · refine ⟨⟨g, j * 3, none⟩, by simp [h], fun t u hu => ?_⟩
      rw [hC, List.getElem?_drop, List.getElem?_take] at hu
      split at hu
      · rw [Addr.add_lit]
        have hu : cur[j * 3 + t]? = some u := by simpa using hu
        simp [World.cell?, hgD, hu]
      · cases hu
  obtain ⟨c1, hc1⟩ : ∃ c1 : Array Value, c1 = (cur.toList.take (i * 3) ++ C ++ cur.toList.drop (i * 3 + C.length)).toArray := ⟨_, rfl⟩
  have hap : ∀ ty, (Builtin.append_ #[22, 22] ty #[.slice (some ⟨g, 0, none⟩) i cap, .slice (some A) (n - j) (cap - j)]).run Try.prog w.drew = .ok (.slice (some ⟨g, 0, none⟩) (i + (n - j)) cap) (w.drew.setRow g c1) := fun ty => by
    have := run_append_room (P := Try.prog) w.drew 22 ty 41 inf hu hin g i cap cur hgD A (n - j) (cap - j) C (by rw [hCl, his]) hsrc.out hC1 (by omega) (by rw [his, hCl, hcs]; omega)
    rw [his, ← hc1] at this
    exact this
  have hc1s : c1.size = cap * 3 := by
    rw [hc1]; simp only [List.size_toArray, List.length_append, List.length_take, List.length_drop, Array.length_toList, hCl, hcs]; omega
  have hg1 : (w.drew.setRow g c1).heap[g]? = some (.cells c1 41 (0, 0)) := setRow_heap _ _ _ _ _ _ hgD
  obtain ⟨Z, hZ⟩ : ∃ Z, Z = (Builtin.zeroCells z.cells (j - i)).toList := ⟨_, rfl⟩
  have hZl : Z.length = (j - i) * 3 := by rw [hZ]; simp [Builtin.zeroCells, hzs]
  obtain ⟨c2, hc2⟩ : ∃ c2 : Array Value, c2 = (c1.toList.take ((i + (n - j)) * 3) ++ Z ++ c1.toList.drop ((i + (n - j)) * 3 + Z.length)).toArray := ⟨_, rfl⟩
  have hcl : ∀ ty c, (Builtin.clear_ #[22] ty #[.slice (some ⟨g, (i + (n - j)) * 3, none⟩) (n - (i + (n - j))) c]).run Try.prog (w.drew.setRow g c1) = .ok (.tuple #[]) ((w.drew.setRow g c1).setRow g c2) := fun ty c => by
    rw [hc2, hZ, show n - (i + (n - j)) = j - i by omega]
    exact run_clear_sized (P := Try.prog) _ 22 41 ty z hu hzv g _ (j - i) c c1 hg1 (by omega) (hz1 _) (by rw [hzs, hc1s]; omega)
  have hc2s : c2.size = cap * 3 := by
    rw [hc2]; simp only [List.size_toArray, List.length_append, List.length_take, List.length_drop, Array.length_toList, hZl, hc1s]; omega
  have hc2t : c2.toList.take ((i + (n - j)) * 3) = cur.toList.take (i * 3) ++ C := by
    rw [hc2, List.append_assoc, List.take_append_of_le_length (by rw [List.length_take, Array.length_toList]; omega), List.take_take, Nat.min_self, hc1]
    refine List.take_left' ?_
    simp only [List.length_append, List.length_take, Array.length_toList, hCl]; omega
  have mixed : Try.prog.follows Departure.mixedOrders = true := by kernel_rfl
  have hin' : i ≤ n := by omega
  have hic : i ≤ cap := by omega
  have hjc : j ≤ cap := by omega
  have hne : ¬ (i = j) := by omega
  have hnei : ¬ ((i : Int) = (j : Int)) := by omega
  have hcn : ¬ (cap = i + (n - j)) := by omega
  have hln : i + (n - j) ≤ n := by omega
  clear hc1 hc2 hC
  go_enter Try.func33, Try.ntmps33
  go_wp2_with fail
  go_region_law_o (refine step_appI rfl _ _ 22 22 rfl (.slice (some ⟨g, 0, none⟩) i cap) (.slice (some A) (n - j) (cap - j)) (by simp [Act.eval, Act.put]) (by simp [Act.eval, Act.put]) (hap _) ?_)
  go_wp2_with (at_builtin; refine wpList_clearI _ rfl _ 22 rfl _ rfl (hcl _ _) ?_)
  go_ret
  refine ⟨rfl, c2, setRow_heap _ _ _ _ _ _ hg1, hc2s, hc2t, ⟨rfl, rfl, rfl, by simp, fun k hk hn => ?_⟩⟩
  have hkg : k ≠ g := fun e => hn (by rw [e])
  rw [setRow_other _ _ _ _ hkg, setRow_other _ _ _ _ hkg]; rfl
def delF {α : Type} (x : List α) (i j : Nat) : List α := x.take i ++ x.drop j
def entDelLoan : Ent := ⟨33, .cons (.sl (.st (.cons (.int .i64) (.cons (.int .i64) (.int .i64))))) (.cons (.int .i64) (.cons (.int .i64) .nil)), .sl (.st (.cons (.int .i64) (.cons (.int .i64) (.int .i64)))), true, some 41, fun x => 0 ≤ (x.2.1 : Int) ∧ (x.2.1 : Int) < (x.2.2.1 : Int) ∧ (x.2.2.1 : Int) ≤ List.length (α := (Int × Int × Int)) x.1, fun x => delF (α := (Int × Int × Int)) x.1 (x.2.1 : Int).toNat (x.2.2.1 : Int).toNat⟩
theorem conDelLoan : Con Try.prog entDelLoan := by
  unfold Con
  rw [if_pos (by rfl)]
  refine ⟨by kernel_rfl, ?_⟩
  rintro (x : List (Int × Int × Int)) ⟨(n : Int), (m : Int), _⟩ ⟨h0, h1, h2⟩ w M u us cells hM hMu hown hrow hargs hplain
  have h0 : 0 ≤ n := h0
  have h1 : n < m := h1
  have h2 : m ≤ x.length := h2
  obtain ⟨i, rfl⟩ : ∃ i : Nat, n = i := ⟨n.toNat, by omega⟩
  obtain ⟨j, rfl⟩ : ∃ j : Nat, m = j := ⟨m.toNat, by omega⟩
  obtain ⟨u1, us1, rfl, hu1, u2, us2, rfl, hu2, rfl⟩ := hargs
  obtain ⟨rfl, _⟩ := avr_int (P := Try.prog) (hp := fun _ => none) (ψ := fun _ => undef) hu1
  obtain ⟨rfl, _⟩ := avr_int (P := Try.prog) (hp := fun _ => none) (ψ := fun _ => undef) hu2
  have hone : ∀ {zs : List (Int × Int × Int)} {cs : List Value}, RowsBy (fun x c => Rd Try.prog (.st (.cons (.int .i64) (.cons (.int .i64) (.int .i64)))) w M x c) zs cs → ∀ u ∈ cs, u.oneCell' = true := by
    intro zs
    induction zs with
    | nil => intro cs h u hu; obtain rfl : cs = [] := h; simp at hu
    | cons z r ih =>
      rintro cs ⟨c1, c2, rfl, q1, q2⟩ u hu
      rcases List.mem_append.1 hu with hu | hu
      · exact Rd.one q1 u hu
      · exact ih q2 u hu
  have h1c := hone hrow
  have hcl : cells.length = x.length * 3 := hown.1
  obtain ⟨r1, r2, er, hr1, hr2⟩ := RowsBy.split (xs := x.take i) (ys := x.drop i) (by rw [List.take_append_drop]; exact hrow)
  have hr1l : r1.length = i * 3 := by
    have := RowsBy.len (n := 3) (fun (d : (Int × Int × Int)) c (q : Rd Try.prog (.st (.cons (.int .i64) (.cons (.int .i64) (.int .i64)))) w M d c) => q.len) hr1
    rw [List.length_take] at this; omega
  obtain ⟨q1, q2, eq, hq1, hq2⟩ := RowsBy.split (xs := x.take j) (ys := x.drop j) (by rw [List.take_append_drop]; exact hrow)
  have hq1l : q1.length = j * 3 := by
    have := RowsBy.len (n := 3) (fun (d : (Int × Int × Int)) c (q : Rd Try.prog (.st (.cons (.int .i64) (.cons (.int .i64) (.int .i64)))) w M d c) => q.len) hq1
    rw [List.length_take] at this; omega
  have hrows : RowsBy (fun x c => Rd Try.prog (.st (.cons (.int .i64) (.cons (.int .i64) (.int .i64)))) w M x c) (delF x i j) (cells.take (i * 3) ++ cells.drop (j * 3)) := by
    unfold delF
    have t1 : cells.take (i * 3) = r1 := by rw [er]; exact List.take_left' hr1l
    have t2 : cells.drop (j * 3) = q2 := by rw [eq]; exact List.drop_left' hq1l
    rw [t1, t2]
    exact hr1.append hq2
  have hFl : (delF x i j).length = i + (x.length - j) := by unfold delF; simp only [List.length_append, List.length_take, List.length_drop]; omega
  show Calls Try.prog 33 #[u, .int .i64 i, .int .i64 j] w fun en w' => ∃ v' cells', en = .returned v' ∧ w'.ownsRow 0 41 3 v' (delF x (Int.toNat i) (Int.toNat j)).length cells' ∧ RowsBy (fun x c => Rd Try.prog (.st (.cons (.int .i64) (.cons (.int .i64) (.int .i64)))) w M x c) (delF x (Int.toNat i) (Int.toNat j)) cells' ∧ w.grownBy w' u.ownBlock ∧ (blk v' = blk u ∨ ∃ g, blk v' = some g ∧ w.heap.size ≤ g)
  rw [Int.toNat_natCast, Int.toNat_natCast, hFl]
  have hown' : w.ownsRow 0 41 3 u x.length cells := hown
  rcases hown'.2 with ⟨_, q⟩ | ⟨g, cap, cur, rfl, _, hg, hnc, hcap, hcs, htk⟩
  · omega
  have hcap' : cap ≤ 9223372036854775807 := hcap
  have htk2 : cur.toList.take (i * 3) = cells.take (i * 3) := by rw [← htk, List.take_take, Nat.min_eq_left (by omega)]
  refine Calls.mono (delLoan_run hg hcs hnc hcap' (i := i) (j := j) (by omega) (by omega) (by rw [htk]; exact h1c)) ?_
  rintro en w' ⟨rfl, cur', k1, k2, k3, k4⟩
  rw [htk, htk2] at k3
  exact ⟨_, _, rfl, ⟨by simp only [List.length_append, List.length_take, List.length_drop, hcl]; omega, .inr ⟨g, cap, cur', rfl, Nat.zero_le _, k1, by omega, hcap, k2, k3⟩⟩, hrows, k4, .inl rfl⟩
end T
end Go.Proofs.Ytbbpiihbhdagnaa
