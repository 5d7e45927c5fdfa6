/- A walk's state: a boxed arc, and regions that draw their order over a class of worlds. -/
import Derived.Test.YtbbjopgneophnaaMem
import Derived.BigQuiet
namespace Go.Proofs.Ytbbjopgneophnaa
set_option linter.unusedVariables false
set_option linter.unusedSimpArgs false
open Go.RowKit

/-- A walk's state: below what there was nothing has turned, and block B holds the struct v, which reads as the arc a. -/
structure Box (w0 w : World) (B : Nat) (cs : Array Value) (a : Arc) : Prop where
  base : IsArc w0 (.agg cs) a
  below : Below w0.heap.size w0 w
  held : w.heap[B]? = some (.cells cs 54 (0, 0))
theorem Box.arc {w0 w : World} {B : Nat} {cs : Array Value} {a : Arc} (h : Box w0 w B cs a) : IsArc w (.agg cs) a := h.base.below h.below (Nat.le_refl _)
theorem Box.next {w0 w w' : World} {B : Nat} {cs : Array Value} {a : Arc} (h : Box w0 w B cs a) (hb : Below w.heap.size w w') : Box w0 w' B cs a :=
  ⟨h.base, h.below.trans (hb.mono h.below.size), by rw [hb.block B (lt_of_block h.held)]; exact h.held⟩
/-- A store into another block that is new since w0. -/
theorem Box.store {w0 w : World} {B : Nat} {cs : Array Value} {a : Arc} (h : Box w0 w B cs a) {b j : Nat} (hb : w0.heap.size ≤ b) (hne : B ≠ b) (v : Value) : Box w0 (w.setCell ⟨b, j, none⟩ v) B cs a :=
  ⟨h.base, h.below.setCell hb v, by rw [Below.heap_setCell w ⟨b, j, none⟩ v B hne]; exact h.held⟩
theorem Box.cells {w0 w : World} {B : Nat} {cs : Array Value} {a : Arc} (h : Box w0 w B cs a) (j : Nat) : w.cell? ⟨B, j, none⟩ = cs[j]? := cell_of_row _ _ j _ _ _ h.held
theorem Box.first {w : World} {cs : Array Value} {a : Arc} (h : IsArc w (.agg cs) a) : Box w (w.alloc (.cells cs 54)) w.heap.size cs a :=
  ⟨h, below1 _ _, heap_alloc_new w _⟩

theorem Box.drew {w0 w : World} {B : Nat} {cs : Array Value} {a : Arc} (h : Box w0 w B cs a) : Box w0 { w with drawn := w.drawn + 1 } B cs a :=
  ⟨h.base, h.below.drew, h.held⟩

/-- A region that draws its order, over a class of worlds. -/
theorem wp_region_class {P : Program} {id : Nat} {Q : Exit → Act → World → Prop} {a : Act} {w : World} {l : List Oper} (C : World → Prop) (hm : P.follows .mixedOrders = true) (hB : Region.lexB .any l.toArray = true)
    (hC : C { w with drawn := w.drawn + 1 })
    (h : wpQuiet P l.toArray C (fun a' => ∀ w', C w' → Q .normal a' w') l a) : (Code.region id l.toArray true).wp P Q a w :=
  wp_region_quiet (C := C) hm hB hC (by simpa using h)
def InBox (w0 : World) (B : Nat) (cs : Array Value) (a : Arc) (w : World) : Prop := Box w0 w B cs a

/-- Two boxes. -/
def InTwo (w0 : World) (B : Nat) (cs : Array Value) (a : Arc) (w1 : World) (B' : Nat) (cs' : Array Value) (a' : Arc) (w : World) : Prop := Box w0 w B cs a ∧ Box w1 w B' cs' a'
section
variable {w0 w1 w w' : World} {B B' : Nat} {cs cs' : Array Value} {a a' : Arc}
theorem InTwo.l (h : InTwo w0 B cs a w1 B' cs' a' w) : Box w0 w B cs a := h.1
theorem InTwo.r (h : InTwo w0 B cs a w1 B' cs' a' w) : Box w1 w B' cs' a' := h.2
theorem InTwo.next (h : InTwo w0 B cs a w1 B' cs' a' w) (hb : Below w.heap.size w w') : InTwo w0 B cs a w1 B' cs' a' w' := ⟨h.1.next hb, h.2.next hb⟩
theorem InTwo.drew (h : InTwo w0 B cs a w1 B' cs' a' w) : InTwo w0 B cs a w1 B' cs' a' { w with drawn := w.drawn + 1 } := ⟨h.1.drew, h.2.drew⟩
end
end Go.Proofs.Ytbbjopgneophnaa
