/- tonneaulaw10.busy: the arc of the example, in memory of the call's own. -/
import Derived.Test.YtjdjadnmlbmjdaaOwn
import Derived.Outline
namespace Go.Proofs.Ytjdjadnmlbmjdaa
open Go.RowKit
namespace Busy

/-- The arc of the example. -/
def arc : Arc := ⟨0, 0, List.replicate 24 10, (List.replicate 24 20).set 8 50⟩

def At (w wr : World) (k j : Nat) (lv hv : Value) : Prop :=
  wr.heap[w.heap.size]? = some (.cells #[.int .i64 0, .int .i64 0, .slice none 0 0, .slice none 0 0] 24 (0, 0)) ∧
  wr.heap[w.heap.size + 1]? = some (.cells #[.int .i64 0, .int .i64 0, lv, hv] 24 (0, 0)) ∧
  wr.ownsRow (w.heap.size + 2) 3 1 lv k (List.replicate k (.int .i64 10)) ∧ wr.ownsRow (w.heap.size + 2) 3 1 hv j (List.replicate j (.int .i64 20)) ∧
  (∀ g, lv.ownBlock = some g → hv.ownBlock ≠ some g) ∧ Below w.heap.size w wr ∧ w.heap.size + 2 ≤ wr.heap.size

theorem replicate_snoc {α : Type} (k : Nat) (x : α) : List.replicate k x ++ [x] = List.replicate (k + 1) x := by
  rw [List.replicate_succ']

/-- Behind the append to Low, and the store. -/
theorem low {w wr w1 : World} {k j : Nat} {lv hv v' : Value} {o : Obj} (h : At w wr k j lv hv)
    (h1 : w1.ownsRow (w.heap.size + 2) 3 1 v' (k + 1) (List.replicate k (.int .i64 10) ++ [.int .i64 10])) (h2 : (wr.alloc o).grownBy w1 lv.ownBlock) (h3 : Near (wr.alloc o) lv v') :
    At w (w1.setCell ⟨w.heap.size + 1, 2, none⟩ v') (k + 1) j v' hv := by
  obtain ⟨a, b, c, d, e, f, g⟩ := h
  have hg : ∀ i, i < w.heap.size + 2 → w1.heap[i]? = wr.heap[i]? := fun i hi => by
    rw [h2.block i (by simp; omega) (fun q => by have := (c.lt i q.symm).1; omega)]
    exact Below.heap_alloc _ _ _ (by omega)
  refine ⟨?_, ?_, ?_, ?_, ?_, ?_, ?_⟩
  · rw [Below.heap_setCell w1 _ _ w.heap.size (by simp), hg _ (by omega), a]
  · exact setCell_heap (by rw [hg (w.heap.size + 1) (by omega), b])
  · rw [replicate_snoc] at h1
    exact owns_far h1 (by omega) _
  · refine owns_far ((d.alloc o).kept h2 ?_) (by omega) _
    cases q : hv.ownBlock with
    | none => exact .inl rfl
    | some y => exact .inr fun q' => e y q'.symm q
  · intro y hy q
    rcases h3 with h3 | ⟨z, h3, h4⟩
    · exact e y (by rw [← h3, hy]) q
    · rw [h3] at hy
      cases hy
      have := (d.lt _ q).2
      simp at h4
      omega
  · exact ((f.alloc (by omega) o).grown h2 (by simp; omega) (fun q hq => by have := (c.lt q hq).1; omega)).setCell (by simp) _
  · have := h2.size; simp at this ⊢; omega

/-- Behind the append to High, and the store. -/
theorem high {w wr w1 : World} {k j : Nat} {lv hv v' : Value} {o : Obj} (h : At w wr k j lv hv)
    (h1 : w1.ownsRow (w.heap.size + 2) 3 1 v' (j + 1) (List.replicate j (.int .i64 20) ++ [.int .i64 20])) (h2 : (wr.alloc o).grownBy w1 hv.ownBlock) (h3 : Near (wr.alloc o) hv v') :
    At w (w1.setCell ⟨w.heap.size + 1, 3, none⟩ v') k (j + 1) lv v' := by
  obtain ⟨a, b, c, d, e, f, g⟩ := h
  have hg : ∀ i, i < w.heap.size + 2 → w1.heap[i]? = wr.heap[i]? := fun i hi => by
    rw [h2.block i (by simp; omega) (fun q => by have := (d.lt i q.symm).1; omega)]
    exact Below.heap_alloc _ _ _ (by omega)
  refine ⟨?_, ?_, ?_, ?_, ?_, ?_, ?_⟩
  · rw [Below.heap_setCell w1 _ _ w.heap.size (by simp), hg _ (by omega), a]
  · exact setCell_heap (by rw [hg (w.heap.size + 1) (by omega), b])
  · refine owns_far ((c.alloc o).kept h2 ?_) (by omega) _
    cases q : lv.ownBlock with
    | none => exact .inl rfl
    | some y => exact .inr fun q' => e y q q'.symm
  · rw [replicate_snoc] at h1
    exact owns_far h1 (by omega) _
  · intro y hy q
    rcases h3 with h3 | ⟨z, h3, h4⟩
    · exact e y hy (by rw [← h3, q])
    · rw [h3] at q
      cases q
      have := (c.lt _ hy).2
      simp at h4
      omega
  · exact ((f.alloc (by omega) o).grown h2 (by simp; omega) (fun q hq => by have := (d.lt q hq).1; omega)).setCell (by simp) _
  · have := h2.size; simp at this ⊢; omega

/-- The cells of the variable a. -/
theorem At.cells {w wr : World} {k j : Nat} {lv hv : Value} (h : At w wr k j lv hv) :
    wr.cell? ⟨w.heap.size + 1, 0, none⟩ = some (.int .i64 0) ∧ wr.cell? ⟨w.heap.size + 1, 1, none⟩ = some (.int .i64 0) ∧
    wr.cell? ⟨w.heap.size + 1, 2, none⟩ = some lv ∧ wr.cell? ⟨w.heap.size + 1, 3, none⟩ = some hv := by
  obtain ⟨_, b, _⟩ := h
  simp [cell_of_row _ _ _ _ _ _ b]
/-- Behind an append the cells of a are as they were, and not frozen. -/
theorem At.behind {w wr w1 : World} {k j : Nat} {lv hv v : Value} {o : Obj} (h : At w wr k j lv hv) (hv' : v = lv ∨ v = hv) (h2 : (wr.alloc o).grownBy w1 v.ownBlock) :
    w1.cell? ⟨w.heap.size + 1, 2, none⟩ = some lv ∧ w1.cell? ⟨w.heap.size + 1, 3, none⟩ = some hv ∧ w1.frozen? ⟨w.heap.size + 1, 2, none⟩ = false ∧ w1.frozen? ⟨w.heap.size + 1, 3, none⟩ = false := by
  obtain ⟨a, b, c, d, e, f, g⟩ := h
  have hb : w1.heap[w.heap.size + 1]? = some (.cells #[.int .i64 0, .int .i64 0, lv, hv] 24 (0, 0)) := by
    rw [h2.block _ (by simp; omega) (fun q => by rcases hv' with rfl | rfl; (have := (c.lt _ q.symm).1; omega); (have := (d.lt _ q.symm).1; omega))]
    rw [Below.heap_alloc _ _ _ (by omega)]
    exact b
  simp [cell_of_row _ _ _ _ _ _ hb, frozen_of_row _ _ _ _ _ hb]


set_option maxHeartbeats 800000 in
theorem busy_any (w : World) : Calls Try.prog 18 #[] w fun e w' => ∃ v, e = .returned v ∧ IsArc w' v arc ∧ Below w.heap.size w w' := by
  obtain ⟨i0, hi, hz0, hz1, hz2⟩ := info_parts infoInt
  go_enter Try.func18, Try.ntmps18
  go_wp2
  go_loopw [2] (fun i wr => ∃ k : Nat, k ≤ 24 ∧ i = .int .i64 k ∧ Hid (∃ lv hv, At w wr k k lv hv)) (fun i _ => 24 - (intOf i).toNat)
  case atStart => 
    refine ⟨0, by omega, rfl, ⟨.slice none 0 0, .slice none 0 0, ?_⟩⟩
    refine ⟨?_, ?_, World.ownsRow_nil _ _ _ _, World.ownsRow_nil _ _ _ _, fun g h => by simp [Value.ownBlock] at h, ((Below.refl _ _).alloc (by simp) _).alloc (by simp) _, by simp⟩
    · rw [Below.heap_alloc _ _ _ (by simp)]; exact heap_alloc_new w _
    · have := heap_alloc_new (w.alloc (.cells #[.int .i64 0, .int .i64 0, .slice none 0 0, .slice none 0 0] 24)) (.cells #[.int .i64 0, .int .i64 0, .slice none 0 0, .slice none 0 0] 24)
      simpa using this
  case round =>
    obtain ⟨k, hk, rfl, H⟩ := hrel
    obtain ⟨lv, hv, H⟩ := H.out
    obtain ⟨A, c, rfl⟩ := owns_shape H.2.2.1
    obtain ⟨A', c', rfl⟩ := owns_shape H.2.2.2.1
    have Hh := Lib.hid H
    have C := H.cells
    have O1 := H.2.2.1
    have N := H.2.2.2.2.2.2
    clear H
    by_cases hlt : k < 24
    · obtain ⟨c0, c1, c2, c3⟩ := C
      go_wp2_with (at_builtin; refine wpList_append_near rfl (.tmp 8) (.tmp 9) 22 rfl (w.heap.size + 2) 3 i0 (.int .i64 0) 1 8 Try.underlying22 hi hz0 hz1 hz2 rfl (by decide) _ _ _ rfl (O1.alloc _) ⟨wr.heap.size, 0, none⟩ 1 1 [.int .i64 10] rfl rfl (lit_cells _ _ _) (lit_one rfl) (by unfold maxLen; omega) (by omega) (by simp; omega) ?_)
      intro v' w1 h1 h2 h3
      obtain ⟨A2, c2', rfl⟩ := owns_shape h1
      have L := low Hh.out h1 h2 h3
      obtain ⟨d2, d3, e2, e3⟩ := Hh.out.behind (.inl rfl) h2
      clear h1 h2 h3 c0 c1 c2 c3
      have C2 := L.cells
      obtain ⟨c0, c1, c2, c3⟩ := C2
      have O2 := L.2.2.2.1
      have N2 := L.2.2.2.2.2.2
      have Lh := Lib.hid L; clear L
      go_wp2_with (at_builtin; refine wpList_append_near rfl (.tmp 13) (.tmp 14) 22 rfl (w.heap.size + 2) 3 i0 (.int .i64 0) 1 8 Try.underlying22 hi hz0 hz1 hz2 rfl (by decide) _ _ _ rfl (O2.alloc _) ⟨w1.heap.size, 0, none⟩ 1 1 [.int .i64 20] rfl rfl (by simpa using lit_cells (w1.setCell _ _) _ _) (lit_one rfl) (by unfold maxLen; omega) (by omega) (by simp at N2 ⊢; omega) ?_)
      intro v2 w2 h1 h2 h3
      obtain ⟨A3, c3', rfl⟩ := owns_shape h1
      have L2 := high Lh.out h1 h2 h3
      obtain ⟨f2, f3, g2, g3⟩ := Lh.out.behind (.inr rfl) h2
      clear h1 h2 h3 c0 c1 c2 c3 d2 d3 e2 e3 O1 O2
      have Lh2 := Lib.hid L2; clear L2 Lh Hh
      go_wp2_with fail
      go_roundw
      case rel => exact ⟨k + 1, by omega, by go_num, ⟨_, _, Lh2.out⟩⟩
      case measure => simp [intOf]; omega
    · obtain rfl : k = 24 := by omega
      obtain ⟨c0, c1, c2, c3⟩ := C
      have O2 := Hh.out.2.2.2.1
      rcases O2.2 with ⟨_, q⟩ | ⟨g, cap, cur, q, q1, q2, _⟩
      · cases q
      injection q with q3 q4 q5
      subst q3
      have d1 := O2.cellAt 8 (by omega)
      have d2 := O2.frozenAt 8
      simp only [List.getElem?_replicate] at d1
      have z0 : ¬ w.heap.size + 1 = g := by omega
      have z1 : ¬ w.heap.size = g := by omega
      have A0 := Hh.out.1
      have e0 := fun j => cell_of_row _ _ j _ _ _ A0
      have e1 := fun j => frozen_of_row _ _ j _ _ A0
      have Hf := Lib.hid (show ∀ W4, W4 = (((((wr.setCell { block := g, off := 8 } (Value.int IntKind.i64 50)).setCell { block := w.heap.size, off := 0 } (Value.int IntKind.i64 0)).setCell { block := w.heap.size, off := 1 } (Value.int IntKind.i64 0)).setCell { block := w.heap.size, off := 2 } (Value.slice A 24 c)).setCell { block := w.heap.size, off := 3 } (Value.slice (some { block := g, off := 0 }) 24 cap)) →
          W4.heap[w.heap.size]? = some (.cells #[.int .i64 0, .int .i64 0, .slice A 24 c, .slice (some ⟨g, 0, none⟩) 24 cap] 24 (0, 0)) ∧
          IsArc W4 (.agg #[.int .i64 0, .int .i64 0, .slice A 24 c, .slice (some ⟨g, 0, none⟩) 24 cap]) arc ∧ Below w.heap.size w W4 by
        rintro W4 rfl
        subst q5
        have S1 := owns_far (b := w.heap.size) (j := 3) (owns_far (b := w.heap.size) (j := 2) (owns_far (b := w.heap.size) (j := 1) (owns_far (b := w.heap.size) (j := 0) (ownsRow_setCell_other (a := ⟨g, 8, none⟩) O1 (fun q => Hh.out.2.2.2.2.1 g q rfl) (.int .i64 50)) (by omega) (.int .i64 0)) (by omega) (.int .i64 0)) (by omega) (.slice A 24 c)) (by omega) (.slice (some ⟨g, 0, none⟩) 24 c')
        have S2 := owns_far (b := w.heap.size) (j := 3) (owns_far (b := w.heap.size) (j := 2) (owns_far (b := w.heap.size) (j := 1) (owns_far (b := w.heap.size) (j := 0) (O2.stored 8 (.int .i64 50)).1 (by omega) (.int .i64 0)) (by omega) (.int .i64 0)) (by omega) (.slice A 24 c)) (by omega) (.slice (some ⟨g, 0, none⟩) 24 c')
        refine ⟨?_, ⟨_, _, _, _, _, _, rfl, owns_ints (xs := List.replicate 24 10) (by simpa using S1) (by omega), owns_ints (xs := (List.replicate 24 20).set 8 50) (by simpa using S2) (by omega)⟩, ?_⟩
        · have B0 : (wr.setCell { block := g, off := 8 } (Value.int IntKind.i64 50)).heap[w.heap.size]? = some (.cells #[.int .i64 0, .int .i64 0, .slice none 0 0, .slice none 0 0] 24 (0, 0)) := by
            rw [Below.heap_setCell wr _ _ w.heap.size (by simpa using z1)]; exact A0
          simpa using setCell_heap (j := 3) (v := (Value.slice (some { block := g, off := 0 }) 24 c')) (setCell_heap (j := 2) (v := .slice A 24 c) (setCell_heap (j := 1) (v := .int .i64 0) (setCell_heap (j := 0) (v := .int .i64 0) B0)))
        · exact ((((Hh.out.2.2.2.2.2.1.setCell (by simp; omega) _).setCell (by simp) _).setCell (by simp) _).setCell (by simp) _).setCell (by simp) _)
      clear hlt O1 O2 A0
      go_wp2_with fail
      obtain ⟨B0, B1, B2⟩ := Hf.out _ rfl
      have B3 := fun j => cell_of_row _ _ j _ _ _ B0
      refine bodyPost_ret (v := .agg #[.int .i64 0, .int .i64 0, .slice A 24 c, .slice (some ⟨g, 0, none⟩) 24 cap]) ?_ rfl ⟨_, rfl, B1, B2⟩
      simp only [results, Try.results18]
      simp [go_sem, B3]
end Busy
end Go.Proofs.Ytjdjadnmlbmjdaa
