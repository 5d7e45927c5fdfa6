/-
  No cell of these rows narrows 'for every input' (looked for: loops, veiled, ifaces, maps, wideKeys, modest, calm, conditions, laid).
  DERIVED. THE GIVEN ROWS OF THIS SEAT. 5 by the template 'for every input the law returns true; each argument reads behind the call as it read before'; 0 by the template 'total and deterministic' (their statements: YtaffcpdkmhpckaaTotals.lean).
  GIVEN WITH THE SEED: the statements are not yours to turn. If you find one false, say at which input.
  Laid BY PROGRAM, IN A SANDBOX (cutbox-rows.mjs): the forced cells as the released guide's own fill.sh prints them over the translation 7314029b2dba8511… (all of the seat's roots in one cut). By AI agents, Wed Nov 11 2026. No macro, syntax, notation, axiom, sorry.
-/
import Derived.Test.YtaffcpdkmhpckaaChecked
import GoSem.Claim
import GoSem.ClaimJoined
import GoSem.ClaimMapViews
import Derived.JoinedTies
import Derived.KernelRfl
namespace Go.Proofs.Ytaffcpdkmhpckaa
/- THE CELL 'sum', in the pinned program and in every row, IS THE sha256 OF THE DUMP (.gsa) THAT YtaffcpdkmhpckaaProg.lean LOADS. Nothing in Lean hashes anything: it is a label: what it is worth is what the hold of that sum in a sandbox is worth. -/
noncomputable def Try.pinned : Pinned := { name := "ytaffcpdkmhpckaa", sum := "7314029b2dba85112c265479ebba1d021f2db2e1e051998f0eef07d2c654e42f", checked := Try.checked }
namespace Rows
def none {H : Type} : Left H := { results := [], args := [] }

/-- 'tonneaulaw14.GaugeTells': WHATEVER THE INPUT: true; the input reads as it did. -/
def gaugeTellsSpec : ChangeSpec := { name := "gaugeTells", fn := fun _ => fun
  | [d1, d2] => { results := [.lit (.bool true)], args := [d1, d2] }
  | _ => none }
def gaugeTellsRow : OpenClaim := { program := "ytaffcpdkmhpckaa", sum := "7314029b2dba85112c265479ebba1d021f2db2e1e051998f0eef07d2c654e42f", func := "tonneau/tonneaulaw14.GaugeTells", spec := "gaugeTells", unfollowed := true, recurses := true, apart := false }
def GaugeTellsSaid : Prop := gaugeTellsRow.holds Try.pinned (OpenSpec.ofChange gaugeTellsSpec)

/-- ITS FALSE NEIGHBOUR: 'it returns false'. Refute it at one input. -/
def gaugeTellsWrong : ChangeSpec := { name := "gaugeTells", fn := fun _ => fun
  | [d1, d2] => { results := [.lit (.bool false)], args := [d1, d2] }
  | _ => none }
def GaugeTellsWrongFalsely : Prop := gaugeTellsRow.holds Try.pinned (OpenSpec.ofChange gaugeTellsWrong)

/-- 'tonneaulaw14.GaugeKeeps': WHATEVER THE INPUT: true; the input reads as it did. -/
def gaugeKeepsSpec : ChangeSpec := { name := "gaugeKeeps", fn := fun _ => fun
  | [d1, d2] => { results := [.lit (.bool true)], args := [d1, d2] }
  | _ => none }
def gaugeKeepsRow : OpenClaim := { program := "ytaffcpdkmhpckaa", sum := "7314029b2dba85112c265479ebba1d021f2db2e1e051998f0eef07d2c654e42f", func := "tonneau/tonneaulaw14.GaugeKeeps", spec := "gaugeKeeps", unfollowed := true, recurses := true, apart := false }
def GaugeKeepsSaid : Prop := gaugeKeepsRow.holds Try.pinned (OpenSpec.ofChange gaugeKeepsSpec)

/-- ITS FALSE NEIGHBOUR: 'it returns false'. Refute it at one input. -/
def gaugeKeepsWrong : ChangeSpec := { name := "gaugeKeeps", fn := fun _ => fun
  | [d1, d2] => { results := [.lit (.bool false)], args := [d1, d2] }
  | _ => none }
def GaugeKeepsWrongFalsely : Prop := gaugeKeepsRow.holds Try.pinned (OpenSpec.ofChange gaugeKeepsWrong)

/-- 'tonneaulaw14.GaugeOrder': WHATEVER THE INPUT: true; the input reads as it did. -/
def gaugeOrderSpec : ChangeSpec := { name := "gaugeOrder", fn := fun _ => fun
  | [d1, d2, d3] => { results := [.lit (.bool true)], args := [d1, d2, d3] }
  | _ => none }
def gaugeOrderRow : OpenClaim := { program := "ytaffcpdkmhpckaa", sum := "7314029b2dba85112c265479ebba1d021f2db2e1e051998f0eef07d2c654e42f", func := "tonneau/tonneaulaw14.GaugeOrder", spec := "gaugeOrder", unfollowed := true, recurses := true, apart := false }
def GaugeOrderSaid : Prop := gaugeOrderRow.holds Try.pinned (OpenSpec.ofChange gaugeOrderSpec)

/-- ITS FALSE NEIGHBOUR: 'it returns false'. Refute it at one input. -/
def gaugeOrderWrong : ChangeSpec := { name := "gaugeOrder", fn := fun _ => fun
  | [d1, d2, d3] => { results := [.lit (.bool false)], args := [d1, d2, d3] }
  | _ => none }
def GaugeOrderWrongFalsely : Prop := gaugeOrderRow.holds Try.pinned (OpenSpec.ofChange gaugeOrderWrong)

/-- 'tonneaulaw14.GaugeMore': WHATEVER THE INPUT: true; the input reads as it did. -/
def gaugeMoreSpec : ChangeSpec := { name := "gaugeMore", fn := fun _ => fun
  | [d1, d2, d3] => { results := [.lit (.bool true)], args := [d1, d2, d3] }
  | _ => none }
def gaugeMoreRow : OpenClaim := { program := "ytaffcpdkmhpckaa", sum := "7314029b2dba85112c265479ebba1d021f2db2e1e051998f0eef07d2c654e42f", func := "tonneau/tonneaulaw14.GaugeMore", spec := "gaugeMore", unfollowed := true, recurses := true, apart := false }
def GaugeMoreSaid : Prop := gaugeMoreRow.holds Try.pinned (OpenSpec.ofChange gaugeMoreSpec)

/-- ITS FALSE NEIGHBOUR: 'it returns false'. Refute it at one input. -/
def gaugeMoreWrong : ChangeSpec := { name := "gaugeMore", fn := fun _ => fun
  | [d1, d2, d3] => { results := [.lit (.bool false)], args := [d1, d2, d3] }
  | _ => none }
def GaugeMoreWrongFalsely : Prop := gaugeMoreRow.holds Try.pinned (OpenSpec.ofChange gaugeMoreWrong)

/-- 'tonneaulaw14.GaugeRides': WHATEVER THE INPUT: true; the input reads as it did. -/
def gaugeRidesSpec : ChangeSpec := { name := "gaugeRides", fn := fun _ => fun
  | [d1, d2, d3, d4] => { results := [.lit (.bool true)], args := [d1, d2, d3, d4] }
  | _ => none }
def gaugeRidesRow : OpenClaim := { program := "ytaffcpdkmhpckaa", sum := "7314029b2dba85112c265479ebba1d021f2db2e1e051998f0eef07d2c654e42f", func := "tonneau/tonneaulaw14.GaugeRides", spec := "gaugeRides", unfollowed := true, recurses := true, apart := false }
def GaugeRidesSaid : Prop := gaugeRidesRow.holds Try.pinned (OpenSpec.ofChange gaugeRidesSpec)

/-- ITS FALSE NEIGHBOUR: 'it returns false'. Refute it at one input. -/
def gaugeRidesWrong : ChangeSpec := { name := "gaugeRides", fn := fun _ => fun
  | [d1, d2, d3, d4] => { results := [.lit (.bool false)], args := [d1, d2, d3, d4] }
  | _ => none }
def GaugeRidesWrongFalsely : Prop := gaugeRidesRow.holds Try.pinned (OpenSpec.ofChange gaugeRidesWrong)

/- THE SECOND FORM. 'bulk': how many values and letters a reading holds, each counted each time it is reached (what is shared counts as often as it is met; a slice's spare places count too). A statement '..UptoSaid' is the law's where the arguments, and the package variables that the reading takes, are together of bulk at most 1048576: NARROWER than '..Said'. Prove '..Said' where nothing that the law and all that it calls make is longer than what came in: it says more and counts as full. Else prove '..UptoSaid'. A law counts once. -/
mutual
def uptoBulk {H : Type} : DataW H → Nat
  | .lit (.string bytes) => bytes.length + 1
  | .lit _ => 1
  | .nil => 1
  | .ptr d => uptoBulk d + 1
  | .slice elems spare => uptoBulkAll elems + uptoBulkAll spare + 1
  | .agg parts => uptoBulkAll parts + 1
  | .iface _ d => uptoBulk d + 1
  | .map entries => uptoBulkEntries entries + 1
  | .held _ => 1
def uptoBulkAll {H : Type} : List (DataW H) → Nat
  | [] => 0
  | d :: r => uptoBulk d + uptoBulkAll r
def uptoBulkEntries {H : Type} : List (Lit × DataW H) → Nat
  | [] => 0
  | x :: r => uptoBulkEntry x + uptoBulkEntries r
def uptoBulkEntry {H : Type} : Lit × DataW H → Nat
  | (.string bytes, d) => bytes.length + uptoBulk d + 1
  | (_, d) => uptoBulk d + 1
 end
def uptoSmall : (H : Type) → List (DataW H) → Bool := fun _ ds => decide (uptoBulkAll ds ≤ 1048576)
def OpenSpec.upto (s : _root_.Go.ChangeSpec) : _root_.Go.OpenSpec := { _root_.Go.OpenSpec.ofChange s with cond := some uptoSmall }

/-- 'tonneaulaw14.GaugeTells', WHERE WHAT IT READS IS OF BULK AT MOST 1048576: true; the input reads as it did. -/
def gaugeTellsUptoRow : OpenClaim := { program := "ytaffcpdkmhpckaa", sum := "7314029b2dba85112c265479ebba1d021f2db2e1e051998f0eef07d2c654e42f", func := "tonneau/tonneaulaw14.GaugeTells", spec := "gaugeTells", unfollowed := true, recurses := true, apart := false, narrowed := true }
def GaugeTellsUptoSaid : Prop := gaugeTellsUptoRow.holds Try.pinned (OpenSpec.upto gaugeTellsSpec)

/-- 'tonneaulaw14.GaugeKeeps', WHERE WHAT IT READS IS OF BULK AT MOST 1048576: true; the input reads as it did. -/
def gaugeKeepsUptoRow : OpenClaim := { program := "ytaffcpdkmhpckaa", sum := "7314029b2dba85112c265479ebba1d021f2db2e1e051998f0eef07d2c654e42f", func := "tonneau/tonneaulaw14.GaugeKeeps", spec := "gaugeKeeps", unfollowed := true, recurses := true, apart := false, narrowed := true }
def GaugeKeepsUptoSaid : Prop := gaugeKeepsUptoRow.holds Try.pinned (OpenSpec.upto gaugeKeepsSpec)

/-- 'tonneaulaw14.GaugeOrder', WHERE WHAT IT READS IS OF BULK AT MOST 1048576: true; the input reads as it did. -/
def gaugeOrderUptoRow : OpenClaim := { program := "ytaffcpdkmhpckaa", sum := "7314029b2dba85112c265479ebba1d021f2db2e1e051998f0eef07d2c654e42f", func := "tonneau/tonneaulaw14.GaugeOrder", spec := "gaugeOrder", unfollowed := true, recurses := true, apart := false, narrowed := true }
def GaugeOrderUptoSaid : Prop := gaugeOrderUptoRow.holds Try.pinned (OpenSpec.upto gaugeOrderSpec)

/-- 'tonneaulaw14.GaugeMore', WHERE WHAT IT READS IS OF BULK AT MOST 1048576: true; the input reads as it did. -/
def gaugeMoreUptoRow : OpenClaim := { program := "ytaffcpdkmhpckaa", sum := "7314029b2dba85112c265479ebba1d021f2db2e1e051998f0eef07d2c654e42f", func := "tonneau/tonneaulaw14.GaugeMore", spec := "gaugeMore", unfollowed := true, recurses := true, apart := false, narrowed := true }
def GaugeMoreUptoSaid : Prop := gaugeMoreUptoRow.holds Try.pinned (OpenSpec.upto gaugeMoreSpec)

/-- 'tonneaulaw14.GaugeRides', WHERE WHAT IT READS IS OF BULK AT MOST 1048576: true; the input reads as it did. -/
def gaugeRidesUptoRow : OpenClaim := { program := "ytaffcpdkmhpckaa", sum := "7314029b2dba85112c265479ebba1d021f2db2e1e051998f0eef07d2c654e42f", func := "tonneau/tonneaulaw14.GaugeRides", spec := "gaugeRides", unfollowed := true, recurses := true, apart := false, narrowed := true }
def GaugeRidesUptoSaid : Prop := gaugeRidesUptoRow.holds Try.pinned (OpenSpec.upto gaugeRidesSpec)

end Rows
end Go.Proofs.Ytaffcpdkmhpckaa
