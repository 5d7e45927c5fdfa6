/- gauge.Tighten: the first loop. -/
import Derived.Test.YtaffcpdkmhpckaaObs
import Derived.Test.YtaffcpdkmhpckaaLoose
import Derived.Test.YtaffcpdkmhpckaaBox
import Derived.Test.YtaffcpdkmhpckaaClock
import Derived.Deep.RegionLaw
import Derived.WalkSmall
import Derived.Laws.Strings
import Derived.StillTailTactics
namespace Go.Proofs.Ytaffcpdkmhpckaa
set_option linter.unusedVariables false
set_option linter.unusedSimpArgs false
open Go.RowKit Go.BigFrame
namespace Gauge

/-- The array of the hours' lists. -/
def hcells (vals : Nat → Value) : Array Value := ((List.range 24).map vals).toArray

theorem hcells_set (vals : Nat → Value) {m : Nat} (hm : m < 24) (v : Value) : (hcells vals).setIfInBounds m v = hcells (upd vals m v) := by
  apply Array.ext_getElem?
  intro i
  unfold hcells
  by_cases e : m = i
  · subst e
    simp [hm, upd]
  · have e' : ¬ i = m := fun h => e h.symm
    simp only [List.setIfInBounds_toArray, List.getElem?_toArray, List.getElem?_set, if_neg e, List.getElem?_map, List.getElem?_range]
    by_cases c : i < 24 <;> simp [c, upd, e']
theorem hcells_get (vals : Nat → Value) {m : Nat} (hm : m < 24) : (hcells vals)[m]? = some (vals m) := by
  unfold hcells; simp [hm]

/-- Where the first loop stands. -/
structure T1 (w wr : World) (HB : Nat) (cs : Array Value) (a : Arc) (l : List Obs) (k : Nat) (vals : Nat → Value) : Prop where
  box : Box w wr w.heap.size cs a
  res : wr.heap[w.heap.size + 1]? = some (.cells #[.int .i64 0, .int .i64 0, .slice none 0 0, .slice none 0 0] 24 (0, 0))
  hours : wr.heap[HB]? = some (.cells (hcells vals) 43 (0, 0))
  rows : Fam wr (HB + 1) 25 vals (rowsAt a l k)
  high : w.heap.size + 2 ≤ HB
theorem Box.grown {w0 w w1 : World} {B : Nat} {cs : Array Value} {a : Arc} {row : Option Nat} (h : Box w0 w B cs a) (hg : w.grownBy w1 row) (hr : ∀ k, row = some k → w0.heap.size ≤ k ∧ B < k) : Box w0 w1 B cs a :=
  ⟨h.base, h.below.grown hg h.below.size (fun k hk => (hr k hk).1), by rw [hg.block B (lt_of_block h.held) (fun e => by have := (hr B e.symm).2; omega)]; exact h.held⟩
section
variable {w wr w1 : World} {HB : Nat} {cs : Array Value} {a : Arc} {l : List Obs} {k : Nat} {vals : Nat → Value}
theorem T1.next (h : T1 w wr HB cs a l k vals) (hb : Below wr.heap.size wr w1) : T1 w w1 HB cs a l k vals :=
  ⟨h.box.next hb, (hb.block _ (lt_of_block h.res)).trans h.res, (hb.block _ (lt_of_block h.hours)).trans h.hours, h.rows.kept hb, h.high⟩
/-- What an append to one of the rows leaves alone. -/
theorem T1.apart (h : T1 w wr HB cs a l k vals) {i : Nat} (hi : i < 25) (h2 : wr.grownBy w1 (vals i).ownBlock) :
    Box w w1 w.heap.size cs a ∧ w1.heap[w.heap.size + 1]? = some (.cells #[.int .i64 0, .int .i64 0, .slice none 0 0, .slice none 0 0] 24 (0, 0)) ∧ w1.heap[HB]? = some (.cells (hcells vals) 43 (0, 0)) := by
  have hr : ∀ q, (vals i).ownBlock = some q → HB + 1 ≤ q := fun q hq => ((h.rows.own i hi).lt q hq).1
  have := h.high
  refine ⟨Box.grown h.box h2 (fun q hq => by have := hr q hq; omega), ?_, ?_⟩
  · rw [h2.block _ (lt_of_block h.res) (fun e => by have := hr _ e.symm; omega)]; exact h.res
  · rw [h2.block _ (lt_of_block h.hours) (fun e => by have := hr _ e.symm; omega)]; exact h.hours
theorem upd_rows {a : Arc} {l : List Obs} {k i : Nat} {x : Int} (h : ∀ j, rowsAt a l (k + 1) j = if j = i then rowsAt a l k j ++ [x] else rowsAt a l k j) : upd (rowsAt a l k) i (rowsAt a l k i ++ [x]) = rowsAt a l (k + 1) := by
  funext j
  rw [h j]
  unfold upd
  by_cases e : j = i
  · subst e; simp
  · simp [e]
/-- A stray. -/
theorem T1.stray (h : T1 w wr HB cs a l k vals) (hk : k < l.length) (hs : insideB a (l.getD k default) = false) {v' : Value}
    (h1 : w1.ownsRow (HB + 1) 3 1 v' ((rowsAt a l k 24).length + 1) ((rowsAt a l k 24).map (Value.int .i64) ++ [.int .i64 k])) (h2 : wr.grownBy w1 (vals 24).ownBlock) (h3 : Near wr (vals 24) v') :
    T1 w w1 HB cs a l (k + 1) (upd vals 24 v') := by
  obtain ⟨a1, a2, a3⟩ := h.apart (i := 24) (by omega) h2
  refine ⟨a1, a2, ?_, ?_, h.high⟩
  · have e : hcells (upd vals 24 v') = hcells vals := by
      unfold hcells
      rw [List.map_congr_left (fun i hi => upd_other vals v' (by have := List.mem_range.1 hi; omega))]
    rw [e]; exact a3
  · have e : upd (rowsAt a l k) 24 (rowsAt a l k 24 ++ [(k : Int)]) = upd (rowsAt a l k) 24 (rowsAt a l k 24 ++ [(k : Int)]) := rfl
    have P := h.rows.push (i := 24) (by omega) h1 h2 h3
    refine ⟨fun i hi => ?_, P.sep⟩
    have := P.own i hi
    have e : upd (rowsAt a l k) 24 (rowsAt a l k 24 ++ [(k : Int)]) i = rowsAt a l (k + 1) i := by
      rw [rowsAt_stray hk hs i]
      unfold upd
      by_cases c : i = 24
      · subst c; simp
      · rw [if_neg c, if_pos (by omega)]
    rw [e] at this
    exact this
/-- One more of an hour. -/
theorem T1.seen (h : T1 w wr HB cs a l k vals) (hk : k < l.length) (hs : insideB a (l.getD k default) = true) {m : Nat} (hm : m = hour (l.getD k default).s) {v' : Value} {x : Int} (hx : x = (l.getD k default).t)
    (h1 : w1.ownsRow (HB + 1) 3 1 v' ((rowsAt a l k m).length + 1) ((rowsAt a l k m).map (Value.int .i64) ++ [.int .i64 x])) (h2 : wr.grownBy w1 (vals m).ownBlock) (h3 : Near wr (vals m) v') :
    T1 w (w1.setCell ⟨HB, m, none⟩ v') HB cs a l (k + 1) (upd vals m v') := by
  have hm24 : m < 24 := by rw [hm]; exact hour_lt _
  obtain ⟨a1, a2, a3⟩ := h.apart (i := m) (by omega) h2
  have := h.high
  refine ⟨a1.store (by omega) (by omega) _, ?_, ?_, ?_, h.high⟩
  · rw [Below.heap_setCell w1 ⟨HB, m, none⟩ _ _ (by simp; omega)]; exact a2
  · rw [← hcells_set vals hm24]; exact setCell_heap a3
  · have P := (h.rows.push (i := m) (by omega) h1 h2 h3).store (b := HB) (j := m) (by omega) v'
    rw [hx, upd_rows (fun j => by rw [rowsAt_seen hk hs j, hm])] at P
    exact P
end

/-- Before it. -/
structure T0 (w wr : World) (cs : Array Value) (a : Arc) : Prop where
  box : Box w wr w.heap.size cs a
  res : wr.heap[w.heap.size + 1]? = some (.cells #[.int .i64 0, .int .i64 0, .slice none 0 0, .slice none 0 0] 24 (0, 0))
theorem T0.next {w wr w' : World} {cs : Array Value} {a : Arc} (h : T0 w wr cs a) (hb : Below wr.heap.size wr w') : T0 w w' cs a :=
  ⟨h.box.next hb, (hb.block _ (lt_of_block h.res)).trans h.res⟩
theorem T0.first {w : World} {cs : Array Value} {a : Arc} (h : IsArc w (.agg cs) a) :
    T0 w ((w.alloc (.cells cs 24)).alloc (.cells #[.int .i64 0, .int .i64 0, .slice none 0 0, .slice none 0 0] 24)) cs a :=
  ⟨(Box.first h).next (below1 _ _), by simpa using heap_alloc_new (w.alloc (.cells cs 24)) (.cells #[.int .i64 0, .int .i64 0, .slice none 0 0, .slice none 0 0] 24)⟩

/-! The copy of the arc. -/
def RowIn (w : World) (base : Nat) (v : Value) (xs : List Int) : Prop := ∃ g c, v = .slice (some ⟨g, 0, none⟩) 24 c ∧ w.ownsRow base 3 1 v 24 (xs.map (Value.int .i64))
theorem owns_ext {w w' : World} {base : Nat} {e : TypeId} {size : Nat} {v : Value} {n : Nat} {xs : List Value} (h : w.ownsRow base e size v n xs) (he : Ext w w') : w'.ownsRow base e size v n xs := by
  refine ⟨h.1, ?_⟩
  rcases h.2 with hn | ⟨g, cap, cur, rfl, hb, hgg, rest⟩
  · exact .inl hn
  · exact .inr ⟨g, cap, cur, rfl, hb, (he.block g (lt_of_block hgg)).trans hgg, rest⟩
theorem owns_base {w : World} {base base' : Nat} {e : TypeId} {size : Nat} {v : Value} {n : Nat} {xs : List Value} (h : w.ownsRow base e size v n xs) (hb : base' ≤ base) : w.ownsRow base' e size v n xs := by
  refine ⟨h.1, ?_⟩
  rcases h.2 with hn | ⟨g, cap, cur, e, hg, rest⟩
  · exact .inl hn
  · exact .inr ⟨g, cap, cur, e, by omega, rest⟩
theorem RowIn.ext {w w' : World} {base : Nat} {v : Value} {xs : List Int} (h : RowIn w base v xs) (he : Ext w w') : RowIn w' base v xs := by
  obtain ⟨g, c, e, o⟩ := h; exact ⟨g, c, e, owns_ext o he⟩
/-- What is claimed of each operation of the region that makes the copy. -/
def RC (f t : Int) (base : Nat) (L H : List Int) : Nat → World → Value → Prop
  | 6, w, v => RowIn w base v L
  | 9, w, v => RowIn w base v H
  | 10, w, v => ∃ x y, v = .agg #[.int .i64 f, .int .i64 t, x, y] ∧ RowIn w base x L ∧ RowIn w base y H ∧ x.ownBlock ≠ y.ownBlock
  | 11, w, v => ∃ g, v = .pointer (some ⟨g, 0, none⟩) ∧ base ≤ g ∧ w.heap[g]? = some (.cells #[.int .i64 0, .int .i64 0, .slice none 0 0, .slice none 0 0] 24 (0, 0))
  | _, _, _ => False
def FC : Nat → Bool
  | 6 => true
  | 9 => true
  | 11 => true
  | _ => false
theorem RC_mono (f t : Int) (base : Nat) (L H : List Int) : ∀ i w w' v, Ext w w' → RC f t base L H i w v → RC f t base L H i w' v := by
  intro i w w' v he h
  unfold RC at h ⊢
  split at h
  · exact h.ext he
  · exact h.ext he
  · obtain ⟨x, y, e, r1, r2, r3⟩ := h; exact ⟨x, y, e, r1.ext he, r2.ext he, r3⟩
  · obtain ⟨g, e, o, q⟩ := h; exact ⟨g, e, o, (he.block g (lt_of_block q)).trans q⟩
  · exact h
theorem RC_lt (f t : Int) (base : Nat) (L H : List Int) : ∀ i w v, FC i = true → RC f t base L H i w v → ∀ b ∈ Loose.blks v, b < w.heap.size := by
  intro i w v hF h b hb
  unfold RC at h
  split at h
  · obtain ⟨g, c, rfl, o⟩ := h
    simp [Loose.blks, Loose.partBlk, Loose.cellBlk] at hb
    subst hb
    exact (o.lt _ rfl).2
  · obtain ⟨g, c, rfl, o⟩ := h
    simp [Loose.blks, Loose.partBlk, Loose.cellBlk] at hb
    subst hb
    exact (o.lt _ rfl).2
  · simp [FC] at hF
  · obtain ⟨g, rfl, o, q⟩ := h
    simp [Loose.blks, Loose.partBlk, Loose.cellBlk] at hb
    subst hb
    exact lt_of_block q
  · cases h

theorem copied {w2 : World} {base q g g' c1 c1' : Nat} {f t : Int} {L H : List Int}
    (h : w2.heap[q]? = some (.cells #[.int .i64 0, .int .i64 0, .slice none 0 0, .slice none 0 0] 24 (0, 0)))
    (o1 : w2.ownsRow base 3 1 (.slice (some ⟨g, 0, none⟩) 24 c1) 24 (L.map (Value.int .i64)))
    (o2 : w2.ownsRow base 3 1 (.slice (some ⟨g', 0, none⟩) 24 c1') 24 (H.map (Value.int .i64))) :
    let w3 := (((w2.setCell { block := q, off := 0 } (Value.int IntKind.i64 f)).setCell { block := q, off := 1 } (Value.int IntKind.i64 t)).setCell { block := q, off := 2 } (Value.slice (some { block := g, off := 0 }) 24 c1)).setCell { block := q, off := 3 } (Value.slice (some { block := g', off := 0 }) 24 c1')
    w3.heap[q]? = some (.cells #[.int .i64 f, .int .i64 t, .slice (some ⟨g, 0, none⟩) 24 c1, .slice (some ⟨g', 0, none⟩) 24 c1'] 24 (0, 0)) ∧
    w3.ownsRow base 3 1 (.slice (some ⟨g, 0, none⟩) 24 c1) 24 (L.map (Value.int .i64)) ∧
    w3.ownsRow base 3 1 (.slice (some ⟨g', 0, none⟩) 24 c1') 24 (H.map (Value.int .i64)) ∧ g ≠ q ∧ g' ≠ q := by
  have far : ∀ {gg cc : Nat} {xs : List Value}, w2.ownsRow base 3 1 (.slice (some ⟨gg, 0, none⟩) 24 cc) 24 xs → gg ≠ q := by
    intro gg cc xs o he
    subst he
    rcases o.2 with ⟨e, _⟩ | ⟨g2, cap, cur, e, _, hg, _⟩
    · cases e
    · injection e with e; injection e with e; injection e with e
      subst e
      rw [h] at hg
      simp at hg
  have n1 := far o1
  have n2 := far o2
  have n1' : Value.ownBlock (.slice (some ⟨g, 0, none⟩) 24 c1) ≠ some q := by simpa [Value.ownBlock] using n1
  have n2' : Value.ownBlock (.slice (some ⟨g', 0, none⟩) 24 c1') ≠ some q := by simpa [Value.ownBlock] using n2
  refine ⟨?_, ?_, ?_, n1, n2⟩
  · simpa using setCell_heap (j := 3) (v := Value.slice (some { block := g', off := 0 }) 24 c1') (setCell_heap (j := 2) (v := Value.slice (some { block := g, off := 0 }) 24 c1) (setCell_heap (j := 1) (v := .int .i64 t) (setCell_heap (j := 0) (v := .int .i64 f) h)))
  · exact ownsRow_setCell_other (ownsRow_setCell_other (ownsRow_setCell_other (ownsRow_setCell_other o1 n1' _) n1' _) n1' _) n1' _
  · exact ownsRow_setCell_other (ownsRow_setCell_other (ownsRow_setCell_other (ownsRow_setCell_other o2 n2' _) n2' _) n2' _) n2' _

theorem index_run (w : World) (vals : Nat → Value) {h n c : Nat} {A : Option Addr} (hh : h < 24) (hv : vals h = .slice A n c) : (Instr.index 43 (.agg (hcells vals)) (.int .i64 h)).run Try.prog w = .ok (.slice A n c) w := by
  have h0 := hcells_get vals hh
  have e1 : (0 : Int) ≤ h ∧ (h : Int) < (24 : Nat) := by omega
  have hs : (sizeOf 22).run Try.prog w = .ok 1 w := by kernel_rfl
  have hg : (isAgg 22).run Try.prog w = .ok false w := by kernel_rfl
  rw [hv] at h0
  have hp : (part 22 (hcells vals) h).run Try.prog w = .ok (.slice A n c) w := by
    unfold part
    simp [hg, h0]
  simp [Instr.index, asIntOf, run_underlying Try.underlying43, hs, hh, hp]
/-- Where the second loop stands. -/
structure T2 (w wr : World) (q g g' d d' : Nat) (base : Nat) (a : Arc) (X Y : List Int) : Prop where
  below : Below base w wr
  out : wr.heap[q]? = some (.cells #[.int .i64 a.f, .int .i64 a.t, .slice (some ⟨g, 0, none⟩) 24 d, .slice (some ⟨g', 0, none⟩) 24 d'] 24 (0, 0))
  low : wr.ownsRow base 3 1 (.slice (some ⟨g, 0, none⟩) 24 d) 24 (X.map (Value.int .i64))
  high : wr.ownsRow base 3 1 (.slice (some ⟨g', 0, none⟩) 24 d') 24 (Y.map (Value.int .i64))
section
variable {w wr : World} {q g g' d d' base : Nat} {a : Arc} {X Y : List Int}
theorem T2.drew (h : T2 w wr q g g' d d' base a X Y) : T2 w { wr with drawn := wr.drawn + 1 } q g g' d d' base a X Y :=
  ⟨h.below.trans (show Below base wr { wr with drawn := wr.drawn + 1 } from (Below.refl base wr).drew), h.out, h.low, h.high⟩
theorem T2.lowPut (h : T2 w wr q g g' d d' base a X Y) (n1 : g ≠ g') (n2 : g ≠ q) (hb : base ≤ g) (k : Nat) (x : Int) : T2 w (wr.setCell ⟨g, k, none⟩ (.int .i64 x)) q g g' d d' base a (X.set k x) Y :=
  ⟨h.below.trans ((Below.refl base wr).setCell (p := ⟨g, k, none⟩) hb (.int .i64 x)), by rw [Below.heap_setCell wr ⟨g, k, none⟩ _ _ (Ne.symm n2)]; exact h.out, by rw [List.map_set]; exact (h.low.stored k _).1, ownsRow_setCell_other h.high (by simp [Value.ownBlock]; exact Ne.symm n1) _⟩
theorem T2.highPut (h : T2 w wr q g g' d d' base a X Y) (n1 : g ≠ g') (n2 : g' ≠ q) (hb : base ≤ g') (k : Nat) (x : Int) : T2 w (wr.setCell ⟨g', k, none⟩ (.int .i64 x)) q g g' d d' base a X (Y.set k x) :=
  ⟨h.below.trans ((Below.refl base wr).setCell (p := ⟨g', k, none⟩) hb (.int .i64 x)), by rw [Below.heap_setCell wr ⟨g', k, none⟩ _ _ (Ne.symm n2)]; exact h.out, ownsRow_setCell_other h.low (by simp [Value.ownBlock]; exact n1) _, by rw [List.map_set]; exact (h.high.stored k _).1⟩
theorem T2.lowAt (h : T2 w wr q g g' d d' base a X Y) {k : Nat} (hk : k < 24) : wr.cell? ⟨g, k, none⟩ = some (.int .i64 (X.getD k 0)) := by
  have hl : X.length = 24 := by simpa using h.low.1
  have := h.low.cellAt k hk
  rw [this, List.getElem?_map, List.getD_eq_getElem?_getD, List.getElem?_eq_getElem (by omega)]; rfl
theorem T2.highAt (h : T2 w wr q g g' d d' base a X Y) {k : Nat} (hk : k < 24) : wr.cell? ⟨g', k, none⟩ = some (.int .i64 (Y.getD k 0)) := by
  have hl : Y.length = 24 := by simpa using h.high.1
  have := h.high.cellAt k hk
  rw [this, List.getElem?_map, List.getD_eq_getElem?_getD, List.getElem?_eq_getElem (by omega)]; rfl
end
theorem results_cell2 {P : Program} {fn : Func} {p u v : Tmp} {ty : TypeId} (h : fn.results = #[.cell p ty, .tmp u, .tmp v]) (tmps : Array Value) (w : World) (g : Nat) (t : TypeId) (cs : Array Value) (fr : Nat × Nat) (d : TypeDesc)
    (hp : tmps.getD p undef = .pointer (some ⟨g, 0, none⟩)) (hg : w.heap[g]? = some (.cells cs t fr))
    (hu : P.underlying ty = some d) (hd : (match d with | .struct _ | .array _ _ => true | _ => false) = true) (hi : (P.info? ty).map (·.size) = some cs.size) :
    (results fn tmps).run P w = .ok (.tuple #[.agg cs, tmps.getD u undef, tmps.getD v undef]) w := by
  have hp' : tmps[p]?.getD undef = .pointer (some ⟨g, 0, none⟩) := by simpa using hp
  simp [results, h, hp', asAddr, run_loadVar_row w g t ty cs fr d hg hu hd hi]
theorem handed {w wz : World} {r base base' : Nat} {x0 x1 x2 x3 : Value} {z : Array Value} {Av : Option Addr} {g g' d d' nv cv n : Nat} {X Y Z : List Value}
    (hr : w.heap.size ≤ r) (hb : r < base) (hb' : r < base') (h0 : Below w.heap.size w wz) (hz : wz.heap[r]? = some (.cells z 24 (0, 0))) (hs : z.size = 4)
    (o1 : wz.ownsRow base 3 1 (.slice (some ⟨g, 0, none⟩) 24 d) 24 X) (o2 : wz.ownsRow base 3 1 (.slice (some ⟨g', 0, none⟩) 24 d') 24 Y) (o3 : wz.ownsRow base' 3 1 (.slice Av nv cv) n Z) :
    let w3 := (((wz.setCell ⟨r, 0, none⟩ x0).setCell ⟨r, 1, none⟩ x1).setCell ⟨r, 2, none⟩ x2).setCell ⟨r, 3, none⟩ x3
    Below w.heap.size w w3 ∧ w3.heap[r]? = some (.cells #[x0, x1, x2, x3] 24 (0, 0)) ∧
    w3.ownsRow base 3 1 (.slice (some ⟨g, 0, none⟩) 24 d) 24 X ∧ w3.ownsRow base 3 1 (.slice (some ⟨g', 0, none⟩) 24 d') 24 Y ∧ w3.ownsRow base' 3 1 (.slice Av nv cv) n Z := by
  intro w3
  refine ⟨(((h0.setCell (p := ⟨r, 0, none⟩) hr x0).setCell (p := ⟨r, 1, none⟩) hr x1).setCell (p := ⟨r, 2, none⟩) hr x2).setCell (p := ⟨r, 3, none⟩) hr x3, ?_,
    owns_far (owns_far (owns_far (owns_far o1 hb _) hb _) hb _) hb _, owns_far (owns_far (owns_far (owns_far o2 hb _) hb _) hb _) hb _, owns_far (owns_far (owns_far (owns_far o3 hb' _) hb' _) hb' _) hb' _⟩
  have := setCell_heap (j := 3) (v := x3) (setCell_heap (j := 2) (v := x2) (setCell_heap (j := 1) (v := x1) (setCell_heap (j := 0) (v := x0) hz)))
  rw [show w3.heap[r]? = _ from this]
  obtain ⟨l⟩ := z
  match l, hs with
  | [y0, y1, y2, y3], _ => rfl
theorem owns_le {w : World} {B base : Nat} {e : TypeId} {size : Nat} {v : Value} {n : Nat} {xs : List Value} (h : w.ownsRow base e size v n xs) (hB : B ≤ base) : w.ownsRow B e size v n xs := by
  obtain ⟨h1, h2⟩ := h
  refine ⟨h1, ?_⟩
  rcases h2 with h2 | ⟨g, cap, cur, e, hb, r⟩
  · exact .inl h2
  · exact .inr ⟨g, cap, cur, e, Nat.le_trans hB hb, r⟩
/-- What Tighten hands back. -/
def Tightened (B : Nat) (a : Arc) (l : List Obs) (e : Ending) (w' : World) : Prop :=
  (a.rightB = true → obsRightB l = true → ∃ g d g' d' A n c, e = .returned (.tuple #[.agg #[.int .i64 a.f, .int .i64 a.t, .slice (some ⟨g, 0, none⟩) 24 d, .slice (some ⟨g', 0, none⟩) 24 d'], .slice A n c, .int .i64 0]) ∧
    w'.ownsRow B 3 1 (.slice (some ⟨g, 0, none⟩) 24 d) 24 ((a.tight l).L.map (Value.int .i64)) ∧ w'.ownsRow B 3 1 (.slice (some ⟨g', 0, none⟩) 24 d') 24 ((a.tight l).H.map (Value.int .i64)) ∧ w'.ownsRow B 3 1 (.slice A n c) n ((straysOf a l).map (Value.int .i64))) ∧
  ((a.rightB && obsRightB l) = false → e = .returned (.tuple #[.agg #[.int .i64 0, .int .i64 0, .slice none 0 0, .slice none 0 0], .slice none 0 0, .int .i64 1]))
theorem handed0 {w wz : World} {r : Nat} {x0 x1 x2 x3 : Value} {z : Array Value}
    (hr : w.heap.size ≤ r) (h0 : Below w.heap.size w wz) (hz : wz.heap[r]? = some (.cells z 24 (0, 0))) (hs : z.size = 4) :
    let w3 := (((wz.setCell ⟨r, 0, none⟩ x0).setCell ⟨r, 1, none⟩ x1).setCell ⟨r, 2, none⟩ x2).setCell ⟨r, 3, none⟩ x3
    Below w.heap.size w w3 ∧ w3.heap[r]? = some (.cells #[x0, x1, x2, x3] 24 (0, 0)) := by
  intro w3
  refine ⟨(((h0.setCell (p := ⟨r, 0, none⟩) hr x0).setCell (p := ⟨r, 1, none⟩) hr x1).setCell (p := ⟨r, 2, none⟩) hr x2).setCell (p := ⟨r, 3, none⟩) hr x3, ?_⟩
  have := setCell_heap (j := 3) (v := x3) (setCell_heap (j := 2) (v := x2) (setCell_heap (j := 1) (v := x1) (setCell_heap (j := 0) (v := x0) hz)))
  rw [show w3.heap[r]? = _ from this]
  obtain ⟨l⟩ := z
  match l, hs with
  | [y0, y1, y2, y3], _ => rfl
set_option maxHeartbeats 800000 in
theorem tighten_bad {w : World} {v : Value} {a : Arc} {A : Option Addr} {n c : Nat} {l : List Obs} (ha : IsArc w v a) (hl : IsObs w A n l) (hv : (a.rightB && obsRightB l) = false) :
    Calls Try.prog 10 #[v, .slice A n c] w fun e w' => Tightened w.heap.size a l e w' ∧ Below w.heap.size w w' := by
  have hv2 := Lib.hid hv
  obtain ⟨A1, n1, c1, A2, n2, c2, rfl, h1, h2⟩ := id ha
  have S := T0.first ha
  have hc := S.box.cells
  cases hr : a.rightB
  · clear h1 h2 hv
    go_enter Try.func10, Try.ntmps10
    go_wp2_with (first
      | (go_at_call 16; refine (Clock.right_any S.box.arc).mono ?_; rintro e w' ⟨rfl, hw⟩; replace S := S.next hw; replace hc := S.box.cells; have cr := (fun j => cell_of_row _ _ j _ _ _ S.res); have fr := (fun j => frozen_of_row _ _ j _ _ S.res); have Q := Lib.hid (handed0 (x0 := .int .i64 0) (x1 := .int .i64 0) (x2 := .slice none 0 0) (x3 := .slice none 0 0) (by omega) S.box.below S.res rfl); clear hw))
    (try simp only [Exit.inBlock, Exit.then])
    obtain ⟨R1, R2⟩ := Q.out
    refine bodyPost_ret (results_cell2 rfl _ _ (w.heap.size + 1) _ _ _ _ rfl R2 Try.underlying24 rfl (by kernel_rfl)) rfl ?_
    exact ⟨⟨fun h => (by rw [hr] at h; cases h), fun _ => rfl⟩, R1⟩
  · cases ho : obsRightB l
    · clear h1 h2 hv
      go_enter Try.func10, Try.ntmps10
      go_wp2_with (first
        | (go_at_call 16; refine (Clock.right_any S.box.arc).mono ?_; rintro e w' ⟨rfl, hw⟩; replace S := S.next hw; replace hc := S.box.cells; clear hw)
        | (go_at_call 14; refine (right_any (hl.below S.box.below (Nat.le_refl _))).mono ?_; rintro e w' ⟨rfl, hw⟩; replace S := S.next hw; replace hc := S.box.cells; have cr := (fun j => cell_of_row _ _ j _ _ _ S.res); have fr := (fun j => frozen_of_row _ _ j _ _ S.res); have Q := Lib.hid (handed0 (x0 := .int .i64 0) (x1 := .int .i64 0) (x2 := .slice none 0 0) (x3 := .slice none 0 0) (by omega) S.box.below S.res rfl); clear hw))
      (try simp only [Exit.inBlock, Exit.then])
      obtain ⟨R1, R2⟩ := Q.out
      refine bodyPost_ret (results_cell2 rfl _ _ (w.heap.size + 1) _ _ _ _ rfl R2 Try.underlying24 rfl (by kernel_rfl)) rfl ?_
      exact ⟨⟨fun _ h => (by rw [ho] at h; cases h), fun _ => rfl⟩, R1⟩
    · rw [hr, ho] at hv; cases hv
set_option maxRecDepth 100000 in
set_option maxHeartbeats 1600000 in
theorem tighten_any {w : World} {v : Value} {a : Arc} {A : Option Addr} {n c : Nat} {l : List Obs} (ha : IsArc w v a) (hl : IsObs w A n l) :
    Calls Try.prog 10 #[v, .slice A n c] w fun e w' => Tightened w.heap.size a l e w' ∧ Below w.heap.size w w' := by
  obtain ⟨A1, n1, c1, A2, n2, c2, rfl, ⟨hl1, _, k1⟩, ⟨hl2, _, k2⟩⟩ := id ha
  cases hr : a.rightB
  · exact tighten_bad ha hl (by rw [hr]; rfl)
  cases ho : obsRightB l
  · exact tighten_bad ha hl (by rw [hr, ho]; rfl)
  have rr : a.right := of_decide_eq_true hr
  have oo : l.all Obs.okB = true := by unfold obsRightB at ho; simp only [Bool.and_eq_true] at ho; exact ho.2
  have on : l.length ≤ 10000 := by unfold obsRightB at ho; simp only [Bool.and_eq_true, decide_eq_true_eq] at ho; exact ho.1
  obtain rfl : n1 = 24 := by rw [← hl1]; exact rr.2.2.1
  obtain rfl : n2 = 24 := by rw [← hl2]; exact rr.2.2.2.1
  obtain ⟨bL, oL, rfl, hbL, hcL⟩ := k1.resolve_left (by omega)
  obtain ⟨bH, oH, rfl, hbH, hcH⟩ := k2.resolve_left (by omega)
  have HcL := Lib.hid hcL; have HcH := Lib.hid hcH
  have Rr := Lib.hid rr
  have Oo := Lib.hid oo
  have S := T0.first ha
  have hc := S.box.cells
  clear hl1 hl2 k1 k2 hcL hcH rr oo
  go_enter Try.func10, Try.ntmps10
  go_wp2_with (first
    | (go_at_call 16; refine (Clock.right_any S.box.arc).mono ?_; rintro e w' ⟨rfl, hw⟩; replace S := S.next hw; replace hc := S.box.cells; clear hw)
    | (go_at_call 14; refine (right_any (hl.below S.box.below (Nat.le_refl _))).mono ?_; rintro e w' ⟨rfl, hw⟩; replace S := S.next hw; replace hc := S.box.cells; clear hw))
  have HB : w.heap.size + 2 ≤ w'.heap.size := lt_of_block S.res
  have T := Lib.hid (show T1 w (w'.alloc (.cells (hcells fun _ => .slice none 0 0) 43)) w'.heap.size #[.int .i64 a.f, .int .i64 a.t, .slice (some ⟨bL, oL, none⟩) 24 c1, .slice (some ⟨bH, oH, none⟩) 24 c2] a l 0 (fun _ => .slice none 0 0) from
    ⟨S.box.next (below1 _ _), ((below1 w' _).block _ (lt_of_block S.res)).trans S.res, heap_alloc_new w' _, by rw [rowsAt_zero]; exact Fam.start _ _ _, HB⟩)
  generalize w'.heap.size = hb at *
  obtain ⟨i0, ti, hz0, hz1, hz2⟩ := info_parts infoInt
  have Ha := Lib.hid ha
  obtain ⟨ll, _, k3⟩ := hl
  have K3 := Lib.hid k3
  clear hc S ho hr ha k3
  subst ll
  go_loopw [8, 26] (fun sv i wr => ∃ (k : Nat) (vals : Nat → Value), k ≤ l.length ∧ i = .int .i64 k ∧ sv = vals 24 ∧ Hid (T1 w wr hb #[.int .i64 a.f, .int .i64 a.t, .slice (some ⟨bL, oL, none⟩) 24 c1, .slice (some ⟨bH, oH, none⟩) 24 c2] a l k vals))
    (fun _ i _ => l.length - (intOf i).toNat)
  case atStart => exact ⟨0, fun _ => .slice none 0 0, by omega, rfl, rfl, T.out⟩
  case round =>
    clear T
    obtain ⟨k, vals, hk, rfl, rfl, T⟩ := hrel
    have T := T
    have bx := T.out.box
    have hcA := bx.cells
    by_cases hlt : k < l.length
    · as_aux_lemma =>
      obtain ⟨bO, oO, rfl, hbO, hcO⟩ := K3.out.resolve_left (by omega)
      obtain ⟨cs0, ct0⟩ := hcO k hlt
      have okk : (l.getD k default).okB = true := by
        have := Oo.out
        rw [List.all_eq_true] at this
        rw [List.getD_eq_getElem?_getD, List.getElem?_eq_getElem hlt]
        exact this _ (List.getElem_mem hlt)
      obtain ⟨s0, s1, t0, t1⟩ := okB_true okk
      obtain ⟨m, hm, hm24, hmh⟩ : ∃ m : Nat, (l.getD k default).s / 60 % 24 = m ∧ m < 24 ∧ m = hour (l.getD k default).s := ⟨hour (l.getD k default).s, by unfold hour; omega, hour_lt _, rfl⟩
      have Hm := Lib.hid hmh; clear hmh okk hcO
      obtain ⟨o, hoo⟩ : ∃ o, l.getD k default = o := ⟨_, rfl⟩
      have Ho := Lib.hid hoo
      rw [hoo] at cs0 ct0 s0 s1 t0 t1 hm Hm
      clear hoo
      have cL := HcL.out m hm24
      have cH := HcH.out m hm24
      have Ins := Lib.hid (show insideB a o = (decide (a.L.getD m 0 ≤ o.t) && decide (o.t ≤ a.H.getD m 0)) by unfold insideB; rw [← Hm.out])
      have T2 := Lib.hid (fun W => T1.next (w1 := W) T.out)
      obtain ⟨s, t⟩ := o
      simp only at cs0 ct0 s0 s1 t0 t1 hm
      generalize a.L.getD m 0 = lo at *
      generalize a.H.getD m 0 = hi at *
      have dL := (bx.below.cell (p := ⟨bL, oL + m, none⟩) hbL).trans cL
      have dH := (bx.below.cell (p := ⟨bH, oH + m, none⟩) hbH).trans cH
      have ds := (bx.below.cell (p := ⟨bO, oO + k * 2, none⟩) hbO).trans cs0
      have dt := (bx.below.cell (p := ⟨bO, oO + k * 2 + 1, none⟩) hbO).trans ct0
      have zL := World.block_lt_of_cell? wr _ dL
      have zH := World.block_lt_of_cell? wr _ dH
      have zB := lt_of_block bx.held
      have zh := lt_of_block T.out.hours
      have hn := T.out.high
      simp only at zL zH
      obtain ⟨Av, nv, cv, ev⟩ : ∃ A n c, vals 24 = .slice A n c := let ⟨A, c, e⟩ := owns_shape (T.out.rows.own 24 (by omega)); ⟨A, _, c, e⟩
      have Ev := Lib.hid ev
      rw [ev]
      clear ev cL cH cs0 ct0 bx
      have m0 : (0 : Int) ≤ m := by omega
      have m1 : (m : Int) < 24 := by omega
      by_cases p1 : t < lo
      · have d1 : decide (t < lo) = true := by simpa using p1
        go_wp2_with fail
        go_quiet (fail)
        have T3 := Lib.hid (T2.out _ (below_drewN (below1 wr (.cells #[.int .i64 s, .int .i64 t] 36)) nq))
        have O3 := (T3.out.rows.own 24 (by omega))
        rw [Ev.out] at O3
        have n3 : nv = (rowsAt a l k 24).length := (owns_len O3)
        have n4 := rowsAt_len a l k 24
        subst n3
        go_wp2_with (at_builtin; refine wpList_append_near rfl (.tmp 53) (.tmp 55) 22 rfl (hb + 1) 3 i0 (.int .i64 0) 1 8 Try.underlying22 ti hz0 hz1 hz2 rfl (by decide) _ _ _ rfl (O3.alloc _) ⟨wr.heap.size + 1, 0, none⟩ 1 1 [.int .i64 k] rfl rfl (by simpa using lit_cells ((wr.alloc (.cells #[.int .i64 s, .int .i64 t] 36)).drewN nq) (.int .i64 k) 3) (lit_one rfl) (by unfold maxLen; omega) (by omega) (by simp; omega) ?_)
        intro v' w4 h1 h2 h3
        obtain ⟨A4, c4, rfl⟩ := owns_shape h1
        have T4 := Lib.hid (T1.stray (T3.out.next (below1 _ _)) hlt (by rw [Ho.out, Ins.out]; simp; omega) h1 (by rw [Ev.out]; exact h2) (by rw [Ev.out]; exact h3))
        clear h1 h2 h3 O3
        go_wp2_with fail
        go_roundw
        case rel => exact ⟨k + 1, _, by omega, by go_num, (upd_same _ _ _).symm, T4.out⟩
        case measure => simp [intOf]; omega
      have d1 : decide (t < lo) = false := by simpa using p1
      by_cases p2 : hi < t
      · have d2 : decide (hi < t) = true := by simpa using p2
        go_wp2_with fail
        go_quiet (fail)
        have T3 := Lib.hid (T2.out _ (below_drewN (below1 wr (.cells #[.int .i64 s, .int .i64 t] 36)) nq))
        have O3 := (T3.out.rows.own 24 (by omega))
        rw [Ev.out] at O3
        have n3 : nv = (rowsAt a l k 24).length := (owns_len O3)
        have n4 := rowsAt_len a l k 24
        subst n3
        go_wp2_with (at_builtin; refine wpList_append_near rfl (.tmp 53) (.tmp 55) 22 rfl (hb + 1) 3 i0 (.int .i64 0) 1 8 Try.underlying22 ti hz0 hz1 hz2 rfl (by decide) _ _ _ rfl (O3.alloc _) ⟨wr.heap.size + 1, 0, none⟩ 1 1 [.int .i64 k] rfl rfl (by simpa using lit_cells ((wr.alloc (.cells #[.int .i64 s, .int .i64 t] 36)).drewN nq) (.int .i64 k) 3) (lit_one rfl) (by unfold maxLen; omega) (by omega) (by simp; omega) ?_)
        intro v' w4 h1 h2 h3
        obtain ⟨A4, c4, rfl⟩ := owns_shape h1
        have T4 := Lib.hid (T1.stray (T3.out.next (below1 _ _)) hlt (by rw [Ho.out, Ins.out]; simp; omega) h1 (by rw [Ev.out]; exact h2) (by rw [Ev.out]; exact h3))
        clear h1 h2 h3 O3
        go_wp2_with fail
        go_roundw
        case rel => exact ⟨k + 1, _, by omega, by go_num, (upd_same _ _ _).symm, T4.out⟩
        case measure => simp [intOf]; omega
      have d2 : decide (hi < t) = false := by simpa using p2
      obtain ⟨Ah, nh, ch, eh⟩ : ∃ A n c, vals m = .slice A n c := let ⟨A, c, e⟩ := owns_shape (T.out.rows.own m (by omega)); ⟨A, _, c, e⟩
      have Eh := Lib.hid eh
      have dh : wr.cell? ⟨hb, m, none⟩ = some (.slice Ah nh ch) := by rw [cell_of_row _ _ m _ _ _ T.out.hours, hcells_get _ hm24, eh]
      clear eh
      go_wp2_with fail
      go_quiet (fail)
      have T3 := Lib.hid (fun j => T2.out _ (below_drewN (below1 wr (.cells #[.int .i64 s, .int .i64 t] 36)) j))
      have O3 := fun j => ((T3.out j).rows.own m (by omega))
      rw [Eh.out] at O3
      have n3 : nh = (rowsAt a l k m).length := (owns_len (O3 0))
      have n4 := rowsAt_len a l k m
      subst n3
      have O3h := Lib.hid O3; clear O3
      go_wp2_with fail
      go_region_law (refine step_append_near rfl (.tmp 60) (.tmp 63) 22 rfl (hb + 1) 3 i0 (.int .i64 0) 1 8 Try.underlying22 ti hz0 hz1 hz2 rfl (by decide) (.slice Ah (rowsAt a l k m).length ch) _ _ (by simp [Act.eval, Act.put]) ((O3h.out _).alloc _) ⟨wr.heap.size + 1, 0, none⟩ 1 1 [.int .i64 t] (by simp [Act.eval, Act.put]) rfl (by simpa using lit_cells ((wr.alloc (.cells #[.int .i64 s, .int .i64 t] 36)).drewN _) (.int .i64 t) 3) (lit_one rfl) (by unfold maxLen; omega) (by omega) (by simp; omega) ?_; intro v' w4 h1 h2 h3; obtain ⟨A4, c4, rfl⟩ := owns_shape h1; obtain ⟨_, _, q3⟩ := T1.apart ((T3.out _).next (below1 _ _)) (i := m) (by omega) (by rw [Eh.out]; exact h2); have e4 := cell_of_row _ hb m _ _ _ q3; rw [hcells_get _ hm24] at e4; have f4 := frozen_of_row _ hb m _ _ q3; clear q3)
      all_goals
        have T4 := Lib.hid (T1.seen ((T3.out _).next (below1 _ _)) hlt (by rw [Ho.out, Ins.out]; simp; omega) (m := m) (by rw [Ho.out]; exact Hm.out) (x := t) (by rw [Ho.out]) h1 (by rw [Eh.out]; exact h2) (by rw [Eh.out]; exact h3))
        clear h1 h2 h3 e4 f4
        go_wp2_with fail
        go_roundw
        case rel => exact ⟨k + 1, _, by omega, by go_num, by rw [upd_other _ _ (by omega)]; exact Ev.out.symm, T4.out⟩
        case measure => simp [intOf]; omega
    · obtain rfl : k = l.length := by omega
      have zh := lt_of_block T.out.hours
      go_wp2_with fail
      refine Loose.start (S := InBox w w.heap.size #[.int .i64 a.f, .int .i64 a.t, .slice (some ⟨bL, oL, none⟩) 24 c1, .slice (some ⟨bH, oH, none⟩) 24 c2] a) (n := 13) (by kernel_rfl) (by kernel_rfl) ?_
      have hS : InBox w w.heap.size #[.int .i64 a.f, .int .i64 a.t, .slice (some ⟨bL, oL, none⟩) 24 c1, .slice (some ⟨bH, oH, none⟩) 24 c2] a wr.drew := Box.drew bx
      apply wpAnyH_take (i := 0); (case hi => rfl); (case hs => kernel_rfl); (case hf => kernel_rfl); (case hr => kernel_rfl); (case hQ => exact fun _ _ _ h => h); (case hS => assumption); (case hy => refine Or.inl ⟨by rfl, ?_⟩; intro w2 S2; have hc2 := Box.cells S2; go_simp; with_reducible rfl); try simp only [List.getElem_toArray, List.getElem_cons_succ, List.getElem_cons_zero, Act.put, List.setIfInBounds_toArray, List.set_cons_zero, List.set_cons_succ]
      apply wpAnyH_take (i := 1); (case hi => rfl); (case hs => kernel_rfl); (case hf => kernel_rfl); (case hr => kernel_rfl); (case hQ => exact fun _ _ _ h => h); (case hS => assumption); (case hy => refine Or.inl ⟨by rfl, ?_⟩; intro w2 S2; have hc2 := Box.cells S2; go_simp; with_reducible rfl); try simp only [List.getElem_toArray, List.getElem_cons_succ, List.getElem_cons_zero, Act.put, List.setIfInBounds_toArray, List.set_cons_zero, List.set_cons_succ]
      apply wpAnyH_take (i := 2); (case hi => rfl); (case hs => kernel_rfl); (case hf => kernel_rfl); (case hr => kernel_rfl); (case hQ => exact fun _ _ _ h => h); (case hS => assumption); (case hy => refine Or.inl ⟨by rfl, ?_⟩; intro w2 S2; have hc2 := Box.cells S2; go_simp; with_reducible rfl); try simp only [List.getElem_toArray, List.getElem_cons_succ, List.getElem_cons_zero, Act.put, List.setIfInBounds_toArray, List.set_cons_zero, List.set_cons_succ]
      apply wpAnyH_take (i := 3); (case hi => rfl); (case hs => kernel_rfl); (case hf => kernel_rfl); (case hr => kernel_rfl); (case hQ => exact fun _ _ _ h => h); (case hS => assumption); (case hy => refine Or.inl ⟨by rfl, ?_⟩; intro w2 S2; have hc2 := Box.cells S2; go_simp; with_reducible rfl); try simp only [List.getElem_toArray, List.getElem_cons_succ, List.getElem_cons_zero, Act.put, List.setIfInBounds_toArray, List.set_cons_zero, List.set_cons_succ]
      apply wpAnyH_take (i := 4); (case hi => rfl); (case hs => kernel_rfl); (case hf => kernel_rfl); (case hr => kernel_rfl); (case hQ => exact fun _ _ _ h => h); (case hS => assumption); (case hy => refine Or.inl ⟨by rfl, ?_⟩; intro w2 S2; have hc2 := Box.cells S2; go_simp; with_reducible rfl); try simp only [List.getElem_toArray, List.getElem_cons_succ, List.getElem_cons_zero, Act.put, List.setIfInBounds_toArray, List.set_cons_zero, List.set_cons_succ]
      apply wpAnyH_take (i := 5); (case hi => rfl); (case hs => kernel_rfl); (case hf => kernel_rfl); (case hr => kernel_rfl); (case hQ => exact fun _ _ _ h => h); (case hS => assumption); (case hy => refine Or.inl ⟨by rfl, ?_⟩; intro w2 S2; have hc2 := Box.cells S2; go_simp; with_reducible rfl); try simp only [List.getElem_toArray, List.getElem_cons_succ, List.getElem_cons_zero, Act.put, List.setIfInBounds_toArray, List.set_cons_zero, List.set_cons_succ]
      apply wpAnyH_take (i := 7); (case hi => rfl); (case hs => kernel_rfl); (case hf => kernel_rfl); (case hr => kernel_rfl); (case hQ => exact fun _ _ _ h => h); (case hS => assumption); (case hy => refine Or.inl ⟨by rfl, ?_⟩; intro w2 S2; have hc2 := Box.cells S2; go_simp; with_reducible rfl); try simp only [List.getElem_toArray, List.getElem_cons_succ, List.getElem_cons_zero, Act.put, List.setIfInBounds_toArray, List.set_cons_zero, List.set_cons_succ]
      apply wpAnyH_take (i := 8); (case hi => rfl); (case hs => kernel_rfl); (case hf => kernel_rfl); (case hr => kernel_rfl); (case hQ => exact fun _ _ _ h => h); (case hS => assumption); (case hy => refine Or.inl ⟨by rfl, ?_⟩; intro w2 S2; have hc2 := Box.cells S2; go_simp; with_reducible rfl); try simp only [List.getElem_toArray, List.getElem_cons_succ, List.getElem_cons_zero, Act.put, List.setIfInBounds_toArray, List.set_cons_zero, List.set_cons_succ]
      have rr := Rr.out
      have hwz := bx.below.size
      refine Loose.held (js := [(6, 73), (9, 76), (10, 77), (11, 12)]) (last := some 12) (R := RC a.f a.t wr.heap.size a.L a.H) FC (by kernel_rfl) Ext.order (RC_lt _ _ _ _ _) (RC_mono _ _ _ _ _) hS ?_ ?_
      · intro p hp
        simp only [List.mem_cons, List.not_mem_nil, or_false] at hp
        rcases hp with rfl | rfl | rfl | rfl
        · as_aux_lemma =>
          refine Loose.Owes.op rfl rfl rfl ?_
          intro a2 w2 e2 S2 hout hpre hap K2 hK
          have f1 : a2.eval (.tmp 72) = .slice (some ⟨bL, oL, none⟩) 24 c1 := (hout 72 (by decide)).trans (by kernel_rfl)
          simp only [Act.eval, Array.getD_eq_getD_getElem?] at f1
          have HK := Lib.hid hK
          clear hK hout hpre hap
          go_simp
          refine (clone_some (xs := a.L) ⟨rr.2.2.1, by omega, .inr ⟨bL, oL, rfl, ?_, fun i hi => ?_⟩⟩ (by omega) (by omega)).mono ?_
          · have := S2.below.size; omega
          · exact (S2.below.cell (p := ⟨bL, oL + i, none⟩) hbL).trans (HcL.out i hi)
          · rintro e w3 ⟨g, c', rfl, hg, o3, b3⟩
            exact HK.out _ _ b3 (Box.next S2 b3) ⟨_, _, rfl, owns_base o3 (by have := e2.size; simpa using this)⟩ (fun _ b hb => by simp [Loose.blks, Loose.partBlk, Loose.cellBlk] at hb; omega)
        · as_aux_lemma =>
          refine Loose.Owes.op rfl rfl rfl ?_
          intro a2 w2 e2 S2 hout hpre hap K2 hK
          have f1 : a2.eval (.tmp 75) = .slice (some ⟨bH, oH, none⟩) 24 c2 := (hout 75 (by decide)).trans (by kernel_rfl)
          simp only [Act.eval, Array.getD_eq_getD_getElem?] at f1
          have HK := Lib.hid hK
          clear hK hout hpre hap
          go_simp
          refine (clone_some (xs := a.H) ⟨rr.2.2.2.1, by omega, .inr ⟨bH, oH, rfl, ?_, fun i hi => ?_⟩⟩ (by omega) (by omega)).mono ?_
          · have := S2.below.size; omega
          · exact (S2.below.cell (p := ⟨bH, oH + i, none⟩) hbH).trans (HcH.out i hi)
          · rintro e w3 ⟨g, c', rfl, hg, o3, b3⟩
            exact HK.out _ _ b3 (Box.next S2 b3) ⟨_, _, rfl, owns_base o3 (by have := e2.size; simpa using this)⟩ (fun _ b hb => by simp [Loose.blks, Loose.partBlk, Loose.cellBlk] at hb; omega)
        · as_aux_lemma =>
          refine Loose.Owes.op rfl rfl rfl ?_
          intro a2 w2 e2 S2 hout hpre hap K2 hK
          obtain ⟨g, d1, f1, o1⟩ := hpre (6, 73) (by simp) (by kernel_rfl)
          obtain ⟨g', d1', f1', o1'⟩ := hpre (9, 76) (by simp) (by kernel_rfl)
          have ne := hap (6, 73) (by simp) (9, 76) (by simp) (by kernel_rfl) (by kernel_rfl) (by decide) rfl rfl
          have h68 : a2.eval (.tmp 68) = .int .i64 a.f := (hout 68 (by decide)).trans (by kernel_rfl)
          have h70 : a2.eval (.tmp 70) = .int .i64 a.t := (hout 70 (by decide)).trans (by kernel_rfl)
          simp only at f1 f1' ne
          rw [f1] at ne o1
          rw [f1'] at ne o1'
          have HK := Lib.hid hK
          have Ne := Lib.hid ne
          clear hK hout hpre hap ne
          simp only [Act.eval, Array.getD_eq_getD_getElem?] at h68 h70 f1 f1'
          go_simp
          refine HK.out _ _ (Ext.refl _) S2 ⟨_, _, rfl, ⟨_, _, rfl, o1⟩, ⟨_, _, rfl, o1'⟩, ?_⟩ (fun h => by cases h)
          intro he
          simp [Value.ownBlock] at he
          exact Ne.out g (by simp [Loose.blks, Loose.partBlk, Loose.cellBlk]) (by simp [Loose.blks, Loose.partBlk, Loose.cellBlk, he])
        · as_aux_lemma =>
          refine Loose.Owes.op rfl rfl rfl ?_
          intro a2 w2 e2 S2 hout hpre hap K2 hK
          have HK := Lib.hid hK
          clear hK hout hpre hap
          go_simp
          exact HK.out _ _ (below1 _ _) (Box.next S2 (below1 _ _)) ⟨_, rfl, by have := e2.size; simpa using this, heap_alloc_new w2 _⟩ (fun _ b hb => by simp [Loose.blks, Loose.partBlk, Loose.cellBlk] at hb; omega)
      · as_aux_lemma =>
        intro vs w2 e2 S2 hR hap K2 hK
        obtain ⟨x1, y1, f1, ⟨g, d1, rfl, o1⟩, ⟨g', d1', rfl, o1'⟩, ne⟩ := hR (10, 77) (by simp)
        obtain ⟨q, f2, q1, q2⟩ := hR (11, 12) (by simp)
        simp only [Loose.lay, List.foldl]
        simp only at f1 f2
        rw [f1, f2]
        generalize vs 73 = v73; generalize vs 76 = v76
        try simp only [List.getElem_toArray, List.getElem_cons_succ, List.getElem_cons_zero, Act.put, List.setIfInBounds_toArray, List.set_cons_zero, List.set_cons_succ]
        have cq := fun j => cell_of_row _ q j _ _ _ q2
        have fq := fun j => frozen_of_row _ q j _ _ q2
        have HK := Lib.hid hK
        have F := Lib.hid (copied (f := a.f) (t := a.t) q2 o1 o1')
        have hg := (o1.lt _ rfl).1
        have hg' := (o1'.lt _ rfl).1
        have E3 := Lib.hid (show Below wr.heap.size wr _ from (((((Below.refl wr.heap.size wr).drew.trans (show Below wr.heap.size wr.drew w2 from e2)).setCell (p := ⟨q, 0, none⟩) q1 (.int .i64 a.f)).setCell (p := ⟨q, 1, none⟩) q1 (.int .i64 a.t)).setCell (p := ⟨q, 2, none⟩) q1 (.slice (some ⟨g, 0, none⟩) 24 d1)).setCell (p := ⟨q, 3, none⟩) q1 (.slice (some ⟨g', 0, none⟩) 24 d1'))
        have T3 := Lib.hid (T.out.next E3.out)
        clear hK hR hap f1 f2 hS e2 S2 o1 o1' q2
        refine Loose.lastOp rfl rfl (fun K3 hK3 => ?_)
        have HK3 := Lib.hid hK3; clear hK3
        go_simp
        refine HK3.out _ _ (HK.out _ _ T3.out.box ?_)
        obtain ⟨F1, F2, F3, F4, F5⟩ := F.out
        clear HK3 HK F cq fq
        generalize (((w2.setCell { block := q, off := 0 } (Value.int IntKind.i64 a.f)).setCell { block := q, off := 1 } (Value.int IntKind.i64 a.t)).setCell { block := q, off := 2 } (Value.slice (some { block := g, off := 0 }) 24 d1)).setCell { block := q, off := 3 } (Value.slice (some { block := g', off := 0 }) 24 d1') = w3 at *
        have F2 := Lib.hid F2; have F3 := Lib.hid F3
        have T9 := Lib.hid (fun (W : World) (E : Below wr.heap.size wr W) => T.out.next E)
        clear T hcA bx
        go_wp2_with (with_reducible refine wpList_load_row rfl 43 (.tmp 7) rfl hb rfl 43 (hcells vals) (0, 0) _ T3.out.hours Try.underlying43 rfl (by kernel_rfl) ?_)
        have dq : g ≠ g' := fun e => ne (by rw [e]; rfl)
        obtain ⟨wA, hwA⟩ : ∃ wA, wA = wr := ⟨_, rfl⟩
        subst wr
        go_loopw [79] (fun i wz => ∃ k : Nat, k ≤ 24 ∧ i = .int .i64 k ∧ Hid (T2 wA wz q g g' d1 d1' wA.heap.size a (upTo (lowAt a l) a.L k) (upTo (highAt a l) a.H k))) (fun i _ => 24 - (intOf i).toNat)
        case atStart => exact ⟨0, by omega, rfl, ⟨E3.out, F1, by rw [upTo_zero _ rr.2.2.1]; exact F2.out, by rw [upTo_zero _ rr.2.2.2.1]; exact F3.out⟩⟩
        case round =>
          obtain ⟨k, hk, rfl, U⟩ := hrel
          by_cases hlt : k < 24
          · obtain ⟨Ah, nh, ch, eh⟩ : ∃ A n c, vals k = .slice A n c := let ⟨A, c, e⟩ := owns_shape (T3.out.rows.own k (by omega)); ⟨A, _, c, e⟩
            have O0 : ∀ W, Below wA.heap.size wA W → W.ownsRow (hb + 1) 3 1 (.slice Ah nh ch) (seenAt a l k).length ((seenAt a l k).map (Value.int .i64)) := fun W E => by
              have o := (T9.out W E).rows.own k (by omega)
              rw [eh, rowsAt_all a l hlt] at o
              exact o
            have n3 := owns_len (O0 _ E3.out)
            subst n3
            have n4 : (seenAt a l k).length ≤ 10000 := by have := rowsAt_len a l l.length k; rw [rowsAt_all a l hlt] at this; omega
            have n5 : ∀ W, Below wA.heap.size wA W → IsInts W Ah (seenAt a l k).length (seenAt a l k) := fun W E => owns_ints (O0 W E) (by omega)
            have hix := fun w => index_run w vals hlt eh
            by_cases h5 : (5 : Int) ≤ ((seenAt a l k).length : Int)
            · obtain ⟨mn, hmn⟩ : ∃ x, minL (seenAt a l k) = x := ⟨_, rfl⟩
              obtain ⟨mx, hmx⟩ : ∃ x, maxL (seenAt a l k) = x := ⟨_, rfl⟩
              obtain ⟨m1, m2, m3, m4⟩ := seen_ok Oo.out (minL_mem (xs := seenAt a l k) (by omega))
              obtain ⟨p1, p2, p3, p4⟩ := seen_ok Oo.out (maxL_mem (xs := seenAt a l k) (by omega))
              obtain ⟨lk, hlk⟩ : ∃ x, a.L.getD k 0 = x := ⟨_, rfl⟩
              obtain ⟨hk', hhk⟩ : ∃ x, a.H.getD k 0 = x := ⟨_, rfl⟩
              have q1 := Lib.hid (show (upTo (lowAt a l) a.L k).getD k 0 = lk by rw [upTo_get _ _ _ hlt, if_neg (Nat.lt_irrefl k), hlk])
              have q2 := Lib.hid (show (upTo (highAt a l) a.H k).getD k 0 = hk' by rw [upTo_get _ _ _ hlt, if_neg (Nat.lt_irrefl k), hhk])
              have e1 := Lib.hid (show (if lk < mn - 3 then mn - 3 else lk) = lowAt a l k by unfold lowAt; rw [if_pos (show 5 ≤ (seenAt a l k).length by omega), hmn, hlk])
              have e2 := Lib.hid (show (if mx + 3 < hk' then mx + 3 else hk') = highAt a l k by unfold highAt; rw [if_pos (show 5 ≤ (seenAt a l k).length by omega), hmx, hhk])
              have w1 : IntKind.i64.wrap (mn - 3) = mn - 3 := IntWalk.i64_in _ (by rw [hmn] at m3 m4; omega)
              have w2 : IntKind.i64.wrap (mx + 3) = mx + 3 := IntWalk.i64_in _ (by rw [hmx] at p3 p4; omega)
              have n6 : 0 < (seenAt a l k).length := by omega
              have M := Lib.hid (fun W E => (min_any (c := ch) (n5 W E) n6).mono (fun e w' h => (⟨by rw [← hmn]; exact h.1, h.2.symm⟩ : e = .returned (.int .i64 mn) ∧ w' = W)))
              have M' := Lib.hid (fun W E => (max_any (c := ch) (n5 W E) n6).mono (fun e w' h => (⟨by rw [← hmx]; exact h.1, h.2.symm⟩ : e = .returned (.int .i64 mx) ∧ w' = W)))
              clear m1 m2 m3 m4 p1 p2 p3 p4 hmn hmx hlk hhk O0 n4 n5
              go_wp2_with fail
              refine wp_region_still_tail 13 (by kernel_rfl) (by kernel_rfl) ?_
              have Z := U.out.drew
              generalize ({ wr with drawn := wr.drawn + 1 } : World) = wd at Z ⊢
              simp only [List.take_succ_cons, List.take_zero, List.drop_succ_cons, List.drop_zero]
              have b1 := Z.lowAt hlt
              rw [q1.out] at b1
              have cq := fun j => cell_of_row _ q j _ _ _ Z.out
              have fz := Z.low.frozenAt k
              repeat still_step
              still_call (M.out _ Z.below)
              repeat still_step
              refine wpStill_nil ?_
              (try rw [w1]); rw [e1.out]
              go_wp2_with fail
              have Z2 := (Z.lowPut dq F4 hg k (lowAt a l k)).drew
              clear b1 cq fz
              refine wp_region_still_tail 13 (by kernel_rfl) (by kernel_rfl) ?_
              generalize ({ wd.setCell { block := g, off := k } (.int .i64 (lowAt a l k)) with drawn := (wd.setCell { block := g, off := k } (.int .i64 (lowAt a l k))).drawn + 1 } : World) = we at Z2 ⊢
              simp only [List.take_succ_cons, List.take_zero, List.drop_succ_cons, List.drop_zero]
              have b1 := Z2.highAt hlt
              rw [q2.out] at b1
              have cq := fun j => cell_of_row _ q j _ _ _ Z2.out
              have fz := Z2.high.frozenAt k
              repeat still_step
              still_call (M'.out _ Z2.below)
              repeat still_step
              refine wpStill_nil ?_
              (try rw [w2]); rw [e2.out]
              go_wp2_with fail
              have Z3 := Z2.highPut dq F5 hg' k (highAt a l k)
              rw [upTo_set _ _ hlt, upTo_set _ _ hlt] at Z3
              have Z3 := Lib.hid Z3
              clear b1 cq fz Z Z2
              go_roundw
              case rel => exact ⟨k + 1, by omega, by go_num, Z3.out⟩
              case measure => simp [intOf]; omega
            · have e1 := (upTo_same (lowAt a l) a.L (k := k) (by unfold lowAt; rw [if_neg (by omega)])).symm
              have e2 := (upTo_same (highAt a l) a.H (k := k) (by unfold highAt; rw [if_neg (by omega)])).symm
              have U3 := U.out
              rw [e1, e2] at U3
              have U3 := Lib.hid U3
              clear e1 e2 U
              go_wp2_with fail
              go_roundw
              case rel => exact ⟨k + 1, by omega, by go_num, U3.out⟩
              case measure => simp [intOf]; omega
          · obtain rfl : k = 24 := by omega
            have V := T9.out _ U.out.below
            obtain ⟨Av, nv, cv, ev⟩ : ∃ A n c, vals 24 = .slice A n c := let ⟨A, c, e⟩ := owns_shape (V.rows.own 24 (by omega)); ⟨A, _, c, e⟩
            have O := V.rows.own 24 (by omega)
            rw [ev, rowsAt_strays] at O
            have O := Lib.hid O
            rw [ev]
            have cq := fun j => cell_of_row _ q j _ _ _ U.out.out
            have cr := fun j => cell_of_row _ (w.heap.size + 1) j _ _ _ V.res
            have fr := fun j => frozen_of_row _ (w.heap.size + 1) j _ _ V.res
            have hbx := Lib.hid V.box.below
            have zz : w.heap.size + 1 < wA.heap.size := by have := lt_of_block V.res; omega
            clear ev V
            have V := T9.out _ U.out.below
            obtain ⟨R1, R2, R3, R4, R5⟩ := handed (x0 := .int .i64 a.f) (x1 := .int .i64 a.t) (x2 := .slice (some ⟨g, 0, none⟩) 24 d1) (x3 := .slice (some ⟨g', 0, none⟩) 24 d1') (by omega) zz (by have := V.high; omega) V.box.below V.res rfl U.out.low U.out.high O.out
            have R3 := owns_le (B := w.heap.size) R3 (by omega)
            have R4 := owns_le (B := w.heap.size) R4 (by omega)
            have nv0 := owns_len R5
            subst nv0
            have R5 := owns_le (B := w.heap.size) R5 (by have := V.high; omega)
            have RR := Lib.hid (And.intro R1 (And.intro R2 (And.intro R3 (And.intro R4 R5))))
            clear R1 R2 R3 R4 R5 V
            go_wp2_with fail
            (try simp only [Exit.inBlock, Exit.then])
            obtain ⟨R1, R2, R3, R4, R5⟩ := RR.out
            refine bodyPost_ret (results_cell2 rfl _ _ (w.heap.size + 1) _ _ _ _ rfl R2 Try.underlying24 rfl (by kernel_rfl)) rfl ?_
            have hv : (a.rightB && obsRightB l) = true := by rw [show a.rightB = true from decide_eq_true Rr.out]; unfold obsRightB; rw [Oo.out]; simp [on]
            refine ⟨⟨fun _ _ => ⟨_, _, _, _, _, _, _, rfl, R3, R4, R5⟩, fun h => by rw [hv] at h; cases h⟩, R1⟩
end Gauge
end Go.Proofs.Ytaffcpdkmhpckaa
