/- An append to a slice of the call's own, with one word more: the new slice lies in the old block or in a new one. -/
import Derived.Test.YtaffcpdkmhpckaaMem
import Derived.OwnWalk
namespace Go.Proofs.Ytaffcpdkmhpckaa
set_option linter.unusedVariables false
set_option linter.unusedSimpArgs false
open Go.RowKit

/-- The slice value v' lies where v lay, or in a block that is new since w. -/
def Near (w : World) (v v' : Value) : Prop := v'.ownBlock = v.ownBlock ∨ ∃ g, v'.ownBlock = some g ∧ w.heap.size ≤ g

theorem infoInt : (Try.prog.info? 3).map (fun i => (i.zero, i.size, i.bytes)) = some (some (.int .i64 0), 1, 8) := by kernel_rfl
theorem owns_shape {w : World} {base : Nat} {e : TypeId} {size : Nat} {v : Value} {n : Nat} {xs : List Value} (h : w.ownsRow base e size v n xs) : ∃ A c, v = .slice A n c := by
  rcases h.2 with ⟨rfl, rfl⟩ | ⟨g, cap, cur, rfl, _⟩
  · exact ⟨_, _, rfl⟩
  · exact ⟨_, _, rfl⟩
theorem owns_len {w : World} {base : Nat} {e : TypeId} {size : Nat} {A : Option Addr} {n m c : Nat} {xs : List Value} (h : w.ownsRow base e size (.slice A n c) m xs) : n = m := by
  rcases h.2 with ⟨e, rfl⟩ | ⟨g, cap, cur, e, _⟩ <;> (injection e)
theorem setCell_heap {w : World} {b j : Nat} {cur : Array Value} {T : TypeId} {v : Value} (h : w.heap[b]? = some (.cells cur T (0, 0))) :
    (w.setCell ⟨b, j, none⟩ v).heap[b]? = some (.cells (cur.setIfInBounds j v) T (0, 0)) := heap_setCell_same w b j cur T v h
theorem owns_far {w : World} {base : Nat} {e : TypeId} {size : Nat} {v : Value} {n : Nat} {xs : List Value} (h : w.ownsRow base e size v n xs) {b j : Nat} (hb : b < base) (u : Value) :
    (w.setCell ⟨b, j, none⟩ u).ownsRow base e size v n xs :=
  ownsRow_setCell_below h (a := ⟨b, j, none⟩) hb u
/-- What the call owns, as a slice of integers. -/
theorem owns_ints {w : World} {base : Nat} {e : TypeId} {A : Option Addr} {n c : Nat} {xs : List Int} (h : w.ownsRow base e 1 (.slice A n c) n (xs.map (Value.int .i64))) (hn : n ≤ 9223372036854775807) : IsInts w A n xs := by
  have hl : xs.length = n := by simpa using h.1
  refine ⟨hl, hn, ?_⟩
  rcases id h.2 with ⟨q, q'⟩ | ⟨g, cap, cur, q, q1, q2, _⟩
  · exact .inl q'
  · injection q with q3 q4 q5
    subst q3
    refine .inr ⟨g, 0, rfl, (Array.getElem?_eq_some_iff.1 q2).1, fun i hi => ?_⟩
    subst q5
    rw [Nat.zero_add, h.cellAt i (by omega), List.getElem?_map, List.getD_eq_getElem?_getD, List.getElem?_eq_getElem (by omega)]
    rfl
/-- The cells of a slice of integers, as an append wants them. -/
theorem ints_cells {w : World} {b off : Nat} {xs : List Int} (h : ∀ i, i < xs.length → w.cell? ⟨b, off + i, none⟩ = some (.int .i64 (xs.getD i 0))) :
    ∀ j u, (xs.map (Value.int .i64))[j]? = some u → w.cell? ⟨b, off + j, none⟩ = some u := by
  intro j u hj
  rw [List.getElem?_map] at hj
  cases hx : xs[j]? with
  | none => rw [hx] at hj; cases hj
  | some x =>
    rw [hx] at hj
    have hlt := (List.getElem?_eq_some_iff.1 hx).1
    rw [h j hlt, List.getD_eq_getElem?_getD, hx]
    exact hj
theorem ints_one {k : IntKind} {xs : List Int} : ∀ u ∈ xs.map (Value.int k), u.oneCell' = true := by
  intro u hu
  obtain ⟨x, _, rfl⟩ := List.mem_map.1 hu
  rfl
/-- A literal of one element, for an append. -/
theorem lit_cells (w : World) (u : Value) (T : TypeId) : ∀ (j : Nat) (x : Value), [u][j]? = some x → (w.alloc (.cells #[u] T)).cell? ((⟨w.heap.size, 0, none⟩ : Addr).add j) = some x := by
  intro j x hj
  match j, hj with
  | 0, hj => simp at hj; subst hj; simp [Addr.add]
theorem lit_one {u : Value} (h : u.oneCell' = true) : ∀ x ∈ [u], x.oneCell' = true := by
  intro x hx; simp at hx; subst hx; exact h

section
variable {P : Program} {w : World}
theorem append_near (base : Nat) (t ty e : TypeId) (i : TypeInfo) (z : Value) (size bytes : Nat) (ht : P.underlying t = some (.slice e)) (hi : P.info? e = some i) (hz : i.zero = some z)
    (hsize : i.size = size) (hby : i.bytes = bytes) (hzs : z.cells.size = size) (hsz : 0 < size)
    (v : Value) (n : Nat) (xs : List Value) (hown : w.ownsRow base e size v n xs)
    (a : Addr) (m c : Nat) (news : List Value) (hl : news.length = m * size) (hnews : ∀ j u, news[j]? = some u → w.cell? (a.add j) = some u) (h1 : ∀ u ∈ news, u.oneCell' = true)
    (h63 : n + m ≤ maxLen) (hbytes : (n + m) * bytes ≤ 140737488355328) (hbase : base ≤ w.heap.size) :
    ∃ v' w', (Builtin.append_ #[t, t] ty #[v, .slice (some a) m c]).run P w = .ok v' w' ∧ w'.ownsRow base e size v' (n + m) (xs ++ news) ∧ w.grownBy w' v.ownBlock ∧ Near w v v' := by
  obtain ⟨v', w', hr, k2, k3, k4⟩ := run_append_own (P := P) w base t ty e i z size bytes ht hi hz hsize hby hzs hsz v n xs hown a m c news hl hnews h1 h63 hbytes hbase
  refine ⟨v', w', hr, k2, k3, ?_⟩
  have hs : n + m ≤ 9223372036854775807 := by simp only [maxLen] at h63; omega
  rcases hown.2 with ⟨rfl, rfl⟩ | ⟨g, cap, cur, rfl, _, hg, hnc, _, hcs, _⟩
  · by_cases hm : m = 0
    · exact .inl (by rw [(k4.2 ⟨rfl, hm⟩)])
    · have q := run_append_nil (P := P) w t ty e i z ht hi hz a m c news (by rw [hl, hsize]) hnews (by omega) (by omega) (by rw [hby]; have hb := hbytes; simp only [Nat.zero_add] at hb; omega)
      rw [q] at hr
      injection hr with h5
      exact .inr ⟨_, by rw [← h5]; rfl, Nat.le_refl _⟩
  · by_cases hroom : n + m ≤ cap
    · have q := run_append_room (P := P) w t ty e i ht hi g n cap cur hg a m c news (by rw [hl, hsize]) hnews h1 hroom (by rw [hl, hsize, hcs, ← Nat.add_mul]; exact Nat.mul_le_mul_right _ hroom)
      rw [q] at hr
      injection hr with h5
      exact .inl (by rw [← h5]; rfl)
    · have holds : ∀ j u, xs[j]? = some u → w.cell? ((⟨g, 0, none⟩ : Addr).add j) = some u := hown.cells (g := g) rfl
      have q := run_append_grow (P := P) w t ty e i z ht hi hz ⟨g, 0, none⟩ n cap xs (by rw [hsize]; exact hown.1) holds a m c news (by rw [hl, hsize]) hnews (by omega) (by omega) (by rw [hby]; exact growslice_fits (by omega) hbytes)
      rw [q] at hr
      injection hr with h5
      exact .inr ⟨_, by rw [← h5]; rfl, Nat.le_refl _⟩

theorem wpList_append_near {ops : Array Oper} {rest : List Oper} {o : Oper} {a : Act} {Q : Exit → Act → World → Prop} (hgd : o.guard = none) (s x : Operand) (t : TypeId)
    (ho : o.op = .call { callee := .builtin .append, args := #[s, x], argTypes := #[t, t] })
    (base : Nat) (e : TypeId) (i : TypeInfo) (z : Value) (size bytes : Nat) (ht : P.underlying t = some (.slice e)) (hi : P.info? e = some i) (hz : i.zero = some z)
    (hsize : i.size = size) (hby : i.bytes = bytes) (hzs : z.cells.size = size) (hsz : 0 < size)
    (v : Value) (n : Nat) (xs : List Value) (hs : a.eval s = v) (hown : w.ownsRow base e size v n xs)
    (ad : Addr) (m c : Nat) (news : List Value) (hx : a.eval x = .slice (some ad) m c) (hl : news.length = m * size) (hnews : ∀ j u, news[j]? = some u → w.cell? (ad.add j) = some u) (h1 : ∀ u ∈ news, u.oneCell' = true)
    (h63 : n + m ≤ maxLen) (hbytes : (n + m) * bytes ≤ 140737488355328) (hbase : base ≤ w.heap.size)
    (h : ∀ v' w', w'.ownsRow base e size v' (n + m) (xs ++ news) → w.grownBy w' v.ownBlock → Near w v v' → wpList P ops Q rest (a.put o.dst v') w') : wpList P ops Q (o :: rest) a w := by
  refine wpList_plain hgd fun _ hK => ?_
  obtain ⟨v', w', hr, h2, h3, h4⟩ := append_near (P := P) base t o.type e i z size bytes ht hi hz hsize hby hzs hsz v n xs hown ad m c news hl hnews h1 h63 hbytes hbase
  unfold Oper.wp execOp
  simp only [ho, resolve, invoke, builtin, Sem.run_bind, Sem.run_pure, Result.andThen_ok, List.map_toArray, List.map_cons, List.map_nil, hs, hx, hr]
  exact hK _ _ (h v' w' h2 h3 h4)

/-- 'append([]T{}, xs...)': the elements in a block of their own. -/
theorem wp_append_copy {o : Oper} {a : Act} {K : Act → World → Prop} {Q : Exit → Act → World → Prop} (s x : Operand) (t : TypeId)
    (ho : o.op = .call { callee := .builtin .append, args := #[s, x], argTypes := #[t, t] })
    (base : Nat) (e : TypeId) (i : TypeInfo) (z : Value) (bytes : Nat) (ht : P.underlying t = some (.slice e)) (hi : P.info? e = some i) (hz : i.zero = some z)
    (hsize : i.size = 1) (hby : i.bytes = bytes) (hzs : z.cells.size = 1)
    (g : Nat) (hs : a.eval s = .slice (some ⟨g, 0, none⟩) 0 0) (hown : w.ownsRow base e 1 (.slice (some ⟨g, 0, none⟩) 0 0) 0 [])
    (b off m c : Nat) (news : List Value) (hx : a.eval x = .slice (some ⟨b, off, none⟩) m c) (hm : 0 < m) (hl : news.length = m) (hnews : ∀ j u, news[j]? = some u → w.cell? ⟨b, off + j, none⟩ = some u) (h1 : ∀ u ∈ news, u.oneCell' = true)
    (h63 : m ≤ 9223372036854775807) (hbytes : m * bytes ≤ 140737488355328) (hbase : base ≤ w.heap.size)
    (h : ∀ c' w', w'.ownsRow base e 1 (.slice (some ⟨w.heap.size, 0, none⟩) m c') m news → Below w.heap.size w w' → K (a.put o.dst (.slice (some ⟨w.heap.size, 0, none⟩) m c')) w') : o.wp P a w K Q := by
  have hadd : ∀ j, (⟨b, off, none⟩ : Addr).add j = ⟨b, off + j, none⟩ := fun j => by unfold Addr.add; split <;> simp_all
  have hn' : ∀ j u, news[j]? = some u → w.cell? ((⟨b, off, none⟩ : Addr).add j) = some u := fun j u hj => by rw [hadd]; exact hnews j u hj
  obtain ⟨v', w', hr, h2, h3, _⟩ := append_near (P := P) base t o.type e i z 1 bytes ht hi hz hsize hby hzs (by omega) _ 0 [] hown ⟨b, off, none⟩ m c news (by omega) hn' h1 (by unfold maxLen; omega) (by simpa using hbytes) hbase
  have q := run_append_grow (P := P) w t o.type e i z ht hi hz ⟨g, 0, none⟩ 0 0 [] (by simp) (by simp) ⟨b, off, none⟩ m c news (by rw [hl, hsize]; omega) hn' (by omega) (by omega) (by rw [hby]; exact growslice_fits (by omega) (by simpa using hbytes))
  have q' := q
  rw [hr] at q'
  injection q' with q1 q2
  simp only [Nat.zero_add, List.nil_append] at h2 q1 q2
  unfold Oper.wp execOp
  simp only [ho, resolve, invoke, builtin, Sem.run_bind, Sem.run_pure, Result.andThen_ok, List.map_toArray, List.map_cons, List.map_nil, hs, hx, hr]
  subst q1
  refine h _ _ h2 ?_
  rw [q2]
  exact ((Below.refl _ _).drew).alloc (Nat.le_refl _) _

/-- An append as one step of a region that draws its order. -/
theorem step_append_near {ops : Array Oper} {o : Oper} {a : Act} {K : Act → World → Prop} {Q : Exit → Act → World → Prop} {E : Prop} (hgd : o.guard = none) (s x : Operand) (t : TypeId)
    (ho : o.op = .call { callee := .builtin .append, args := #[s, x], argTypes := #[t, t] })
    (base : Nat) (e : TypeId) (i : TypeInfo) (z : Value) (size bytes : Nat) (ht : P.underlying t = some (.slice e)) (hi : P.info? e = some i) (hz : i.zero = some z)
    (hsize : i.size = size) (hby : i.bytes = bytes) (hzs : z.cells.size = size) (hsz : 0 < size)
    (v : Value) (n : Nat) (xs : List Value) (hs : a.eval s = v) (hown : w.ownsRow base e size v n xs)
    (ad : Addr) (m c : Nat) (news : List Value) (hx : a.eval x = .slice (some ad) m c) (hl : news.length = m * size) (hnews : ∀ j u, news[j]? = some u → w.cell? (ad.add j) = some u) (h1 : ∀ u ∈ news, u.oneCell' = true)
    (h63 : n + m ≤ maxLen) (hbytes : (n + m) * bytes ≤ 140737488355328) (hbase : base ≤ w.heap.size)
    (h : ∀ v' w', w'.ownsRow base e size v' (n + m) (xs ++ news) → w.grownBy w' v.ownBlock → Near w v v' → K (a.put o.dst v') w') :
    if Region.wanted o (yielded ops a.tmps) = true then Oper.wp P o a w K Q else E := by
  rw [if_pos (by simp [Region.wanted, hgd])]
  obtain ⟨v', w', hr, h2, h3, h4⟩ := append_near (P := P) base t o.type e i z size bytes ht hi hz hsize hby hzs hsz v n xs hown ad m c news hl hnews h1 h63 hbytes hbase
  unfold Oper.wp execOp
  simp only [ho, resolve, invoke, builtin, Sem.run_bind, Sem.run_pure, Result.andThen_ok, List.map_toArray, List.map_cons, List.map_nil, hs, hx, hr]
  exact h v' w' h2 h3 h4
end

/-- A family of rows of integers that the call owns, each in a block of its own. -/
structure Fam (w : World) (base n : Nat) (vals : Nat → Value) (Y : Nat → List Int) : Prop where
  own : ∀ i, i < n → w.ownsRow base 3 1 (vals i) (Y i).length ((Y i).map (Value.int .i64))
  sep : ∀ i j, i < n → j < n → i ≠ j → ∀ g, (vals i).ownBlock = some g → (vals j).ownBlock ≠ some g
def upd {α : Type} (f : Nat → α) (i : Nat) (x : α) : Nat → α := fun j => if j = i then x else f j
theorem upd_same {α : Type} (f : Nat → α) (i : Nat) (x : α) : upd f i x i = x := by simp [upd]
theorem upd_other {α : Type} (f : Nat → α) {i j : Nat} (x : α) (h : j ≠ i) : upd f i x j = f j := by simp [upd, h]
theorem Fam.push {w w1 : World} {base n i : Nat} {vals : Nat → Value} {Y : Nat → List Int} (h : Fam w base n vals Y) (hi : i < n) {x : Int} {v' : Value}
    (h1 : w1.ownsRow base 3 1 v' ((Y i).length + 1) ((Y i).map (Value.int .i64) ++ [.int .i64 x])) (h2 : w.grownBy w1 (vals i).ownBlock) (h3 : Near w (vals i) v') :
    Fam w1 base n (upd vals i v') (upd Y i (Y i ++ [x])) := by
  have key : ∀ j, j < n → j ≠ i → ∀ g, v'.ownBlock = some g → (vals j).ownBlock ≠ some g := by
    intro j hj hji g hg q
    rcases h3 with h3 | ⟨z, h3, h4⟩
    · exact h.sep i j hi hj (Ne.symm hji) g (by rw [← h3, hg]) q
    · rw [h3] at hg
      cases hg
      have := ((h.own j hj).lt _ q).2
      omega
  constructor
  · intro j hj
    by_cases e : j = i
    · subst e
      rw [upd_same, upd_same]
      simpa using h1
    · rw [upd_other _ _ e, upd_other _ _ e]
      refine (h.own j hj).kept h2 ?_
      cases q : (vals j).ownBlock with
      | none => exact .inl rfl
      | some y => exact .inr fun q' => h.sep i j hi hj (Ne.symm e) y q'.symm q
  · intro a b ha hb hab g hg
    by_cases e : a = i
    · subst e
      rw [upd_same] at hg
      rw [upd_other _ _ (Ne.symm hab)]
      exact key b hb (Ne.symm hab) g hg
    · rw [upd_other _ _ e] at hg
      by_cases e' : b = i
      · subst e'
        rw [upd_same]
        intro q
        exact key a ha e g q hg
      · rw [upd_other _ _ e']
        exact h.sep a b ha hb hab g hg
theorem Fam.kept {w w' : World} {base n : Nat} {vals : Nat → Value} {Y : Nat → List Int} (h : Fam w base n vals Y) (hb : Below w.heap.size w w') : Fam w' base n vals Y := by
  refine ⟨fun i hi => ?_, h.sep⟩
  obtain ⟨h1, h2⟩ := h.own i hi
  refine ⟨h1, ?_⟩
  rcases h2 with hn | ⟨g, cap, cur, e, hb', hgg, rest⟩
  · exact .inl hn
  · exact .inr ⟨g, cap, cur, e, hb', (hb.block g (lt_of_block hgg)).trans hgg, rest⟩
theorem Fam.store {w : World} {base n : Nat} {vals : Nat → Value} {Y : Nat → List Int} (h : Fam w base n vals Y) {b j : Nat} (hb : b < base) (u : Value) : Fam (w.setCell ⟨b, j, none⟩ u) base n vals Y :=
  ⟨fun i hi => owns_far (h.own i hi) hb u, h.sep⟩
theorem Fam.start (w : World) (base n : Nat) : Fam w base n (fun _ => .slice none 0 0) (fun _ => []) :=
  ⟨fun _ _ => World.ownsRow_nil _ _ _ _, fun _ _ _ _ _ g h => by simp [Value.ownBlock] at h⟩
end Go.Proofs.Ytaffcpdkmhpckaa
