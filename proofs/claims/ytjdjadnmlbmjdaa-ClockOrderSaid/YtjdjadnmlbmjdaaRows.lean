/-
  No cell of these rows narrows 'for every input' (looked for: loops, veiled, ifaces, maps, wideKeys, modest, calm, conditions, laid).
  DERIVED. THE GIVEN ROWS OF THIS SEAT. 5 by the template 'for every input the law returns true; each argument reads behind the call as it read before'; 0 by the template 'total and deterministic' (their statements: YtjdjadnmlbmjdaaTotals.lean).
  GIVEN WITH THE SEED: the statements are not yours to turn. If you find one false, say at which input.
  Laid BY PROGRAM, IN A SANDBOX (cutbox-rows.mjs): the forced cells as the released guide's own fill.sh prints them over the translation 11b401814b16c9b1… (all of the seat's roots in one cut). By AI agents, Wed Nov 11 2026. No macro, syntax, notation, axiom, sorry.
-/
import Derived.Test.YtjdjadnmlbmjdaaChecked
import GoSem.Claim
import GoSem.ClaimJoined
import GoSem.ClaimMapViews
import Derived.JoinedTies
import Derived.KernelRfl
namespace Go.Proofs.Ytjdjadnmlbmjdaa
/- THE CELL 'sum', in the pinned program and in every row, IS THE sha256 OF THE DUMP (.gsa) THAT YtjdjadnmlbmjdaaProg.lean LOADS. Nothing in Lean hashes anything: it is a label: what it is worth is what the hold of that sum in a sandbox is worth. -/
noncomputable def Try.pinned : Pinned := { name := "ytjdjadnmlbmjdaa", sum := "11b401814b16c9b1d5fdfa60c453f76e65c72968e14a0bdd5126992ad21b4cda", checked := Try.checked }
namespace Rows
def none {H : Type} : Left H := { results := [], args := [] }

/-- 'tonneaulaw10.ClockTells': WHATEVER THE INPUT: true; the input reads as it did. -/
def clockTellsSpec : ChangeSpec := { name := "clockTells", fn := fun _ => fun
  | [d1, d2, d3] => { results := [.lit (.bool true)], args := [d1, d2, d3] }
  | _ => none }
def clockTellsRow : OpenClaim := { program := "ytjdjadnmlbmjdaa", sum := "11b401814b16c9b1d5fdfa60c453f76e65c72968e14a0bdd5126992ad21b4cda", func := "tonneau/tonneaulaw10.ClockTells", spec := "clockTells", apart := false }
def ClockTellsSaid : Prop := clockTellsRow.holds Try.pinned (OpenSpec.ofChange clockTellsSpec)

/-- ITS FALSE NEIGHBOUR: 'it returns false'. Refute it at one input. -/
def clockTellsWrong : ChangeSpec := { name := "clockTells", fn := fun _ => fun
  | [d1, d2, d3] => { results := [.lit (.bool false)], args := [d1, d2, d3] }
  | _ => none }
def ClockTellsWrongFalsely : Prop := clockTellsRow.holds Try.pinned (OpenSpec.ofChange clockTellsWrong)

/-- 'tonneaulaw10.ClockOrder': WHATEVER THE INPUT: true; the input reads as it did. -/
def clockOrderSpec : ChangeSpec := { name := "clockOrder", fn := fun _ => fun
  | [d1, d2, d3, d4] => { results := [.lit (.bool true)], args := [d1, d2, d3, d4] }
  | _ => none }
def clockOrderRow : OpenClaim := { program := "ytjdjadnmlbmjdaa", sum := "11b401814b16c9b1d5fdfa60c453f76e65c72968e14a0bdd5126992ad21b4cda", func := "tonneau/tonneaulaw10.ClockOrder", spec := "clockOrder", apart := false }
def ClockOrderSaid : Prop := clockOrderRow.holds Try.pinned (OpenSpec.ofChange clockOrderSpec)

/-- ITS FALSE NEIGHBOUR: 'it returns false'. Refute it at one input. -/
def clockOrderWrong : ChangeSpec := { name := "clockOrder", fn := fun _ => fun
  | [d1, d2, d3, d4] => { results := [.lit (.bool false)], args := [d1, d2, d3, d4] }
  | _ => none }
def ClockOrderWrongFalsely : Prop := clockOrderRow.holds Try.pinned (OpenSpec.ofChange clockOrderWrong)

/-- 'tonneaulaw10.ClockLast': WHATEVER THE INPUT: true; the input reads as it did. -/
def clockLastSpec : ChangeSpec := { name := "clockLast", fn := fun _ => fun
  | [d1, d2, d3, d4] => { results := [.lit (.bool true)], args := [d1, d2, d3, d4] }
  | _ => none }
def clockLastRow : OpenClaim := { program := "ytjdjadnmlbmjdaa", sum := "11b401814b16c9b1d5fdfa60c453f76e65c72968e14a0bdd5126992ad21b4cda", func := "tonneau/tonneaulaw10.ClockLast", spec := "clockLast", apart := false }
def ClockLastSaid : Prop := clockLastRow.holds Try.pinned (OpenSpec.ofChange clockLastSpec)

/-- ITS FALSE NEIGHBOUR: 'it returns false'. Refute it at one input. -/
def clockLastWrong : ChangeSpec := { name := "clockLast", fn := fun _ => fun
  | [d1, d2, d3, d4] => { results := [.lit (.bool false)], args := [d1, d2, d3, d4] }
  | _ => none }
def ClockLastWrongFalsely : Prop := clockLastRow.holds Try.pinned (OpenSpec.ofChange clockLastWrong)

/-- 'tonneaulaw10.ClockBounds': WHATEVER THE INPUT: true; the input reads as it did. -/
def clockBoundsSpec : ChangeSpec := { name := "clockBounds", fn := fun _ => fun
  | [d1, d2, d3, d4] => { results := [.lit (.bool true)], args := [d1, d2, d3, d4] }
  | _ => none }
def clockBoundsRow : OpenClaim := { program := "ytjdjadnmlbmjdaa", sum := "11b401814b16c9b1d5fdfa60c453f76e65c72968e14a0bdd5126992ad21b4cda", func := "tonneau/tonneaulaw10.ClockBounds", spec := "clockBounds", apart := false }
def ClockBoundsSaid : Prop := clockBoundsRow.holds Try.pinned (OpenSpec.ofChange clockBoundsSpec)

/-- ITS FALSE NEIGHBOUR: 'it returns false'. Refute it at one input. -/
def clockBoundsWrong : ChangeSpec := { name := "clockBounds", fn := fun _ => fun
  | [d1, d2, d3, d4] => { results := [.lit (.bool false)], args := [d1, d2, d3, d4] }
  | _ => none }
def ClockBoundsWrongFalsely : Prop := clockBoundsRow.holds Try.pinned (OpenSpec.ofChange clockBoundsWrong)

/-- 'tonneaulaw10.ClockHours': WHATEVER THE INPUT: true; the input reads as it did. -/
def clockHoursSpec : ChangeSpec := { name := "clockHours", fn := fun _ => fun
  | [d1, d2, d3] => { results := [.lit (.bool true)], args := [d1, d2, d3] }
  | _ => none }
def clockHoursRow : OpenClaim := { program := "ytjdjadnmlbmjdaa", sum := "11b401814b16c9b1d5fdfa60c453f76e65c72968e14a0bdd5126992ad21b4cda", func := "tonneau/tonneaulaw10.ClockHours", spec := "clockHours", apart := false }
def ClockHoursSaid : Prop := clockHoursRow.holds Try.pinned (OpenSpec.ofChange clockHoursSpec)

/-- ITS FALSE NEIGHBOUR: 'it returns false'. Refute it at one input. -/
def clockHoursWrong : ChangeSpec := { name := "clockHours", fn := fun _ => fun
  | [d1, d2, d3] => { results := [.lit (.bool false)], args := [d1, d2, d3] }
  | _ => none }
def ClockHoursWrongFalsely : Prop := clockHoursRow.holds Try.pinned (OpenSpec.ofChange clockHoursWrong)

/- THE SECOND FORM. 'bulk': how many values and letters a reading holds, each counted each time it is reached (what is shared counts as often as it is met; a slice's spare places count too). A statement '..UptoSaid' is the law's where the arguments, and the package variables that the reading takes, are together of bulk at most 1048576: NARROWER than '..Said'. Prove '..Said' where nothing that the law and all that it calls make is longer than what came in: it says more and counts as full. Else prove '..UptoSaid'. A law counts once. -/
mutual
def uptoBulk {H : Type} : DataW H → Nat
  | .lit (.string bytes) => bytes.length + 1
  | .lit _ => 1
  | .nil => 1
  | .ptr d => uptoBulk d + 1
  | .slice elems spare => uptoBulkAll elems + uptoBulkAll spare + 1
  | .agg parts => uptoBulkAll parts + 1
  | .iface _ d => uptoBulk d + 1
  | .map entries => uptoBulkEntries entries + 1
  | .held _ => 1
def uptoBulkAll {H : Type} : List (DataW H) → Nat
  | [] => 0
  | d :: r => uptoBulk d + uptoBulkAll r
def uptoBulkEntries {H : Type} : List (Lit × DataW H) → Nat
  | [] => 0
  | x :: r => uptoBulkEntry x + uptoBulkEntries r
def uptoBulkEntry {H : Type} : Lit × DataW H → Nat
  | (.string bytes, d) => bytes.length + uptoBulk d + 1
  | (_, d) => uptoBulk d + 1
 end
def uptoSmall : (H : Type) → List (DataW H) → Bool := fun _ ds => decide (uptoBulkAll ds ≤ 1048576)
def OpenSpec.upto (s : _root_.Go.ChangeSpec) : _root_.Go.OpenSpec := { _root_.Go.OpenSpec.ofChange s with cond := some uptoSmall }

/-- 'tonneaulaw10.ClockTells', WHERE WHAT IT READS IS OF BULK AT MOST 1048576: true; the input reads as it did. -/
def clockTellsUptoRow : OpenClaim := { program := "ytjdjadnmlbmjdaa", sum := "11b401814b16c9b1d5fdfa60c453f76e65c72968e14a0bdd5126992ad21b4cda", func := "tonneau/tonneaulaw10.ClockTells", spec := "clockTells", apart := false, narrowed := true }
def ClockTellsUptoSaid : Prop := clockTellsUptoRow.holds Try.pinned (OpenSpec.upto clockTellsSpec)

/-- 'tonneaulaw10.ClockOrder', WHERE WHAT IT READS IS OF BULK AT MOST 1048576: true; the input reads as it did. -/
def clockOrderUptoRow : OpenClaim := { program := "ytjdjadnmlbmjdaa", sum := "11b401814b16c9b1d5fdfa60c453f76e65c72968e14a0bdd5126992ad21b4cda", func := "tonneau/tonneaulaw10.ClockOrder", spec := "clockOrder", apart := false, narrowed := true }
def ClockOrderUptoSaid : Prop := clockOrderUptoRow.holds Try.pinned (OpenSpec.upto clockOrderSpec)

/-- 'tonneaulaw10.ClockLast', WHERE WHAT IT READS IS OF BULK AT MOST 1048576: true; the input reads as it did. -/
def clockLastUptoRow : OpenClaim := { program := "ytjdjadnmlbmjdaa", sum := "11b401814b16c9b1d5fdfa60c453f76e65c72968e14a0bdd5126992ad21b4cda", func := "tonneau/tonneaulaw10.ClockLast", spec := "clockLast", apart := false, narrowed := true }
def ClockLastUptoSaid : Prop := clockLastUptoRow.holds Try.pinned (OpenSpec.upto clockLastSpec)

/-- 'tonneaulaw10.ClockBounds', WHERE WHAT IT READS IS OF BULK AT MOST 1048576: true; the input reads as it did. -/
def clockBoundsUptoRow : OpenClaim := { program := "ytjdjadnmlbmjdaa", sum := "11b401814b16c9b1d5fdfa60c453f76e65c72968e14a0bdd5126992ad21b4cda", func := "tonneau/tonneaulaw10.ClockBounds", spec := "clockBounds", apart := false, narrowed := true }
def ClockBoundsUptoSaid : Prop := clockBoundsUptoRow.holds Try.pinned (OpenSpec.upto clockBoundsSpec)

/-- 'tonneaulaw10.ClockHours', WHERE WHAT IT READS IS OF BULK AT MOST 1048576: true; the input reads as it did. -/
def clockHoursUptoRow : OpenClaim := { program := "ytjdjadnmlbmjdaa", sum := "11b401814b16c9b1d5fdfa60c453f76e65c72968e14a0bdd5126992ad21b4cda", func := "tonneau/tonneaulaw10.ClockHours", spec := "clockHours", apart := false, narrowed := true }
def ClockHoursUptoSaid : Prop := clockHoursUptoRow.holds Try.pinned (OpenSpec.upto clockHoursSpec)

end Rows
end Go.Proofs.Ytjdjadnmlbmjdaa
