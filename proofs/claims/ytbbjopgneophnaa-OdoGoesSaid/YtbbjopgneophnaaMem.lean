/- What memory holds: slices of integers and arcs, read as plain data; what stays when new blocks are made. -/
import Derived.Test.YtbbjopgneophnaaPlainClock
import Derived.Test.YtbbjopgneophnaaRows
import Derived.WalkKit
import Derived.ProofKit
import Derived.OpenShut
import Derived.Below
import Derived.Laws.NewBlocks
import Derived.Lib.Hide
namespace Go.Proofs.Ytbbjopgneophnaa
set_option linter.unusedVariables false
set_option linter.unusedSimpArgs false
open Go.RowKit

/-- A slice of integers that reads as xs. -/
def IsInts (w : World) (A : Option Addr) (n : Nat) (xs : List Int) : Prop :=
  xs.length = n ∧ n ≤ 9223372036854775807 ∧ (n = 0 ∨ ∃ b off, A = some ⟨b, off, none⟩ ∧ b < w.heap.size ∧ ∀ i, i < n → w.cell? ⟨b, off + i, none⟩ = some (.int .i64 (xs.getD i 0)))

theorem IsInts.below {w w' : World} {A : Option Addr} {n : Nat} {xs : List Int} (h : IsInts w A n xs) {B : Nat} (hb : Below B w w') (hB : w.heap.size ≤ B) : IsInts w' A n xs := by
  obtain ⟨h1, h2, h3⟩ := h
  refine ⟨h1, h2, ?_⟩
  rcases h3 with h3 | ⟨b, off, e, hlt, hc⟩
  · exact .inl h3
  · refine .inr ⟨b, off, e, by have := hb.size; omega, fun i hi => ?_⟩
    rw [hb.cell (p := ⟨b, off + i, none⟩) (by show b < B; omega)]
    exact hc i hi

/-- A value that reads as an arc. -/
def IsArc (w : World) (v : Value) (a : Arc) : Prop :=
  ∃ A n c A' n' c', v = .agg #[.int .i64 a.f, .int .i64 a.t, .slice A n c, .slice A' n' c'] ∧ IsInts w A n a.L ∧ IsInts w A' n' a.H

theorem IsArc.below {w w' : World} {v : Value} {a : Arc} (h : IsArc w v a) {B : Nat} (hb : Below B w w') (hB : w.heap.size ≤ B) : IsArc w' v a := by
  obtain ⟨A, n, c, A', n', c', e, h1, h2⟩ := h
  exact ⟨A, n, c, A', n', c', e, h1.below hb hB, h2.below hb hB⟩
theorem IsArc.alloc {w : World} {v : Value} {a : Arc} (h : IsArc w v a) (o : Obj) : IsArc (w.alloc o) v a :=
  h.below ((Below.refl w.heap.size w).alloc (Nat.le_refl _) o) (Nat.le_refl _)
theorem below1 (w : World) (o : Obj) : Below w.heap.size w (w.alloc o) := (Below.refl _ _).alloc (Nat.le_refl _) o
/-- What a call behind a new block leaves alone, it leaves alone seen from before the block. -/
theorem behind {w w' : World} {o : Obj} (h : Below (w.alloc o).heap.size (w.alloc o) w') : Below w.heap.size w w' :=
  (below1 w o).trans (h.mono (by simp))
/-- What was there reads as it did: two rules for the walk. -/
theorem bcell {W w1 : World} (hb : Below W.heap.size W w1) : (∀ b o, b < W.heap.size → w1.cell? ⟨b, o, none⟩ = W.cell? ⟨b, o, none⟩) ∧ (∀ b o, b < W.heap.size → w1.frozen? ⟨b, o, none⟩ = W.frozen? ⟨b, o, none⟩) ∧ W.heap.size ≤ w1.heap.size :=
  ⟨fun b o h => hb.cell (p := ⟨b, o, none⟩) h, fun b o h => hb.frozen (p := ⟨b, o, none⟩) h, hb.size⟩
theorem ret_bool {a b : Bool} (h : a = b) : Ending.returned (.bool a) = .returned (.bool b) := by rw [h]
theorem ret_int {k : IntKind} {a b : Int} (h : a = b) : Ending.returned (.int k a) = .returned (.int k b) := by rw [h]
end Go.Proofs.Ytbbjopgneophnaa
