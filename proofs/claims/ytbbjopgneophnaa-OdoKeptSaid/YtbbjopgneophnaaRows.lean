/-
  No cell of these rows narrows 'for every input' (looked for: loops, veiled, ifaces, maps, wideKeys, modest, calm, conditions, laid).
  DERIVED. THE GIVEN ROWS OF THIS SEAT. 5 by the template 'for every input the law returns true; each argument reads behind the call as it read before'; 0 by the template 'total and deterministic' (their statements: YtbbjopgneophnaaTotals.lean).
  GIVEN WITH THE SEED: the statements are not yours to turn. If you find one false, say at which input.
  Laid BY PROGRAM, IN A SANDBOX (cutbox-rows.mjs): the forced cells as the released guide's own fill.sh prints them over the translation 4f9374327fce6a2a… (all of the seat's roots in one cut). By AI agents, Wed Nov 11 2026. No macro, syntax, notation, axiom, sorry.
-/
import Derived.Test.YtbbjopgneophnaaChecked
import GoSem.Claim
import GoSem.ClaimJoined
import GoSem.ClaimMapViews
import Derived.JoinedTies
import Derived.KernelRfl
namespace Go.Proofs.Ytbbjopgneophnaa
/- THE CELL 'sum', in the pinned program and in every row, IS THE sha256 OF THE DUMP (.gsa) THAT YtbbjopgneophnaaProg.lean LOADS. Nothing in Lean hashes anything: it is a label: what it is worth is what the hold of that sum in a sandbox is worth. -/
noncomputable def Try.pinned : Pinned := { name := "ytbbjopgneophnaa", sum := "4f9374327fce6a2a901a50d2dc452fff6d32aaa2e9fbf9b5b5d1f25d62a469f8", checked := Try.checked }
namespace Rows
def none {H : Type} : Left H := { results := [], args := [] }

/-- 'tonneaulaw45.OdoTells': WHATEVER THE INPUT: true; the input reads as it did. -/
def odoTellsSpec : ChangeSpec := { name := "odoTells", fn := fun _ => fun
  | [d1, d2, d3, d4, d5, d6] => { results := [.lit (.bool true)], args := [d1, d2, d3, d4, d5, d6] }
  | _ => none }
def odoTellsRow : OpenClaim := { program := "ytbbjopgneophnaa", sum := "4f9374327fce6a2a901a50d2dc452fff6d32aaa2e9fbf9b5b5d1f25d62a469f8", func := "tonneau/tonneaulaw45.OdoTells", spec := "odoTells", unfollowed := true, recurses := true, apart := false }
def OdoTellsSaid : Prop := odoTellsRow.holds Try.pinned (OpenSpec.ofChange odoTellsSpec)

/-- ITS FALSE NEIGHBOUR: 'it returns false'. Refute it at one input. -/
def odoTellsWrong : ChangeSpec := { name := "odoTells", fn := fun _ => fun
  | [d1, d2, d3, d4, d5, d6] => { results := [.lit (.bool false)], args := [d1, d2, d3, d4, d5, d6] }
  | _ => none }
def OdoTellsWrongFalsely : Prop := odoTellsRow.holds Try.pinned (OpenSpec.ofChange odoTellsWrong)

/-- 'tonneaulaw45.OdoLess': WHATEVER THE INPUT: true; the input reads as it did. -/
def odoLessSpec : ChangeSpec := { name := "odoLess", fn := fun _ => fun
  | [d1, d2, d3, d4] => { results := [.lit (.bool true)], args := [d1, d2, d3, d4] }
  | _ => none }
def odoLessRow : OpenClaim := { program := "ytbbjopgneophnaa", sum := "4f9374327fce6a2a901a50d2dc452fff6d32aaa2e9fbf9b5b5d1f25d62a469f8", func := "tonneau/tonneaulaw45.OdoLess", spec := "odoLess", unfollowed := true, recurses := true, apart := false }
def OdoLessSaid : Prop := odoLessRow.holds Try.pinned (OpenSpec.ofChange odoLessSpec)

/-- ITS FALSE NEIGHBOUR: 'it returns false'. Refute it at one input. -/
def odoLessWrong : ChangeSpec := { name := "odoLess", fn := fun _ => fun
  | [d1, d2, d3, d4] => { results := [.lit (.bool false)], args := [d1, d2, d3, d4] }
  | _ => none }
def OdoLessWrongFalsely : Prop := odoLessRow.holds Try.pinned (OpenSpec.ofChange odoLessWrong)

/-- 'tonneaulaw45.OdoKept': WHATEVER THE INPUT: true; the input reads as it did. -/
def odoKeptSpec : ChangeSpec := { name := "odoKept", fn := fun _ => fun
  | [d1, d2, d3, d4, d5] => { results := [.lit (.bool true)], args := [d1, d2, d3, d4, d5] }
  | _ => none }
def odoKeptRow : OpenClaim := { program := "ytbbjopgneophnaa", sum := "4f9374327fce6a2a901a50d2dc452fff6d32aaa2e9fbf9b5b5d1f25d62a469f8", func := "tonneau/tonneaulaw45.OdoKept", spec := "odoKept", unfollowed := true, recurses := true, apart := false }
def OdoKeptSaid : Prop := odoKeptRow.holds Try.pinned (OpenSpec.ofChange odoKeptSpec)

/-- ITS FALSE NEIGHBOUR: 'it returns false'. Refute it at one input. -/
def odoKeptWrong : ChangeSpec := { name := "odoKept", fn := fun _ => fun
  | [d1, d2, d3, d4, d5] => { results := [.lit (.bool false)], args := [d1, d2, d3, d4, d5] }
  | _ => none }
def OdoKeptWrongFalsely : Prop := odoKeptRow.holds Try.pinned (OpenSpec.ofChange odoKeptWrong)

/-- 'tonneaulaw45.OdoLater': WHATEVER THE INPUT: true; the input reads as it did. -/
def odoLaterSpec : ChangeSpec := { name := "odoLater", fn := fun _ => fun
  | [d1, d2, d3, d4, d5] => { results := [.lit (.bool true)], args := [d1, d2, d3, d4, d5] }
  | _ => none }
def odoLaterRow : OpenClaim := { program := "ytbbjopgneophnaa", sum := "4f9374327fce6a2a901a50d2dc452fff6d32aaa2e9fbf9b5b5d1f25d62a469f8", func := "tonneau/tonneaulaw45.OdoLater", spec := "odoLater", unfollowed := true, recurses := true, apart := false }
def OdoLaterSaid : Prop := odoLaterRow.holds Try.pinned (OpenSpec.ofChange odoLaterSpec)

/-- ITS FALSE NEIGHBOUR: 'it returns false'. Refute it at one input. -/
def odoLaterWrong : ChangeSpec := { name := "odoLater", fn := fun _ => fun
  | [d1, d2, d3, d4, d5] => { results := [.lit (.bool false)], args := [d1, d2, d3, d4, d5] }
  | _ => none }
def OdoLaterWrongFalsely : Prop := odoLaterRow.holds Try.pinned (OpenSpec.ofChange odoLaterWrong)

/-- 'tonneaulaw45.OdoGoes': WHATEVER THE INPUT: true; the input reads as it did. -/
def odoGoesSpec : ChangeSpec := { name := "odoGoes", fn := fun _ => fun
  | [d1, d2, d3, d4, d5, d6] => { results := [.lit (.bool true)], args := [d1, d2, d3, d4, d5, d6] }
  | _ => none }
def odoGoesRow : OpenClaim := { program := "ytbbjopgneophnaa", sum := "4f9374327fce6a2a901a50d2dc452fff6d32aaa2e9fbf9b5b5d1f25d62a469f8", func := "tonneau/tonneaulaw45.OdoGoes", spec := "odoGoes", unfollowed := true, recurses := true, apart := false }
def OdoGoesSaid : Prop := odoGoesRow.holds Try.pinned (OpenSpec.ofChange odoGoesSpec)

/-- ITS FALSE NEIGHBOUR: 'it returns false'. Refute it at one input. -/
def odoGoesWrong : ChangeSpec := { name := "odoGoes", fn := fun _ => fun
  | [d1, d2, d3, d4, d5, d6] => { results := [.lit (.bool false)], args := [d1, d2, d3, d4, d5, d6] }
  | _ => none }
def OdoGoesWrongFalsely : Prop := odoGoesRow.holds Try.pinned (OpenSpec.ofChange odoGoesWrong)

/- THE SECOND FORM. 'bulk': how many values and letters a reading holds, each counted each time it is reached (what is shared counts as often as it is met; a slice's spare places count too). A statement '..UptoSaid' is the law's where the arguments, and the package variables that the reading takes, are together of bulk at most 1048576: NARROWER than '..Said'. Prove '..Said' where nothing that the law and all that it calls make is longer than what came in: it says more and counts as full. Else prove '..UptoSaid'. A law counts once. -/
mutual
def uptoBulk {H : Type} : DataW H → Nat
  | .lit (.string bytes) => bytes.length + 1
  | .lit _ => 1
  | .nil => 1
  | .ptr d => uptoBulk d + 1
  | .slice elems spare => uptoBulkAll elems + uptoBulkAll spare + 1
  | .agg parts => uptoBulkAll parts + 1
  | .iface _ d => uptoBulk d + 1
  | .map entries => uptoBulkEntries entries + 1
  | .held _ => 1
def uptoBulkAll {H : Type} : List (DataW H) → Nat
  | [] => 0
  | d :: r => uptoBulk d + uptoBulkAll r
def uptoBulkEntries {H : Type} : List (Lit × DataW H) → Nat
  | [] => 0
  | x :: r => uptoBulkEntry x + uptoBulkEntries r
def uptoBulkEntry {H : Type} : Lit × DataW H → Nat
  | (.string bytes, d) => bytes.length + uptoBulk d + 1
  | (_, d) => uptoBulk d + 1
 end
def uptoSmall : (H : Type) → List (DataW H) → Bool := fun _ ds => decide (uptoBulkAll ds ≤ 1048576)
def OpenSpec.upto (s : _root_.Go.ChangeSpec) : _root_.Go.OpenSpec := { _root_.Go.OpenSpec.ofChange s with cond := some uptoSmall }

/-- 'tonneaulaw45.OdoTells', WHERE WHAT IT READS IS OF BULK AT MOST 1048576: true; the input reads as it did. -/
def odoTellsUptoRow : OpenClaim := { program := "ytbbjopgneophnaa", sum := "4f9374327fce6a2a901a50d2dc452fff6d32aaa2e9fbf9b5b5d1f25d62a469f8", func := "tonneau/tonneaulaw45.OdoTells", spec := "odoTells", unfollowed := true, recurses := true, apart := false, narrowed := true }
def OdoTellsUptoSaid : Prop := odoTellsUptoRow.holds Try.pinned (OpenSpec.upto odoTellsSpec)

/-- 'tonneaulaw45.OdoLess', WHERE WHAT IT READS IS OF BULK AT MOST 1048576: true; the input reads as it did. -/
def odoLessUptoRow : OpenClaim := { program := "ytbbjopgneophnaa", sum := "4f9374327fce6a2a901a50d2dc452fff6d32aaa2e9fbf9b5b5d1f25d62a469f8", func := "tonneau/tonneaulaw45.OdoLess", spec := "odoLess", unfollowed := true, recurses := true, apart := false, narrowed := true }
def OdoLessUptoSaid : Prop := odoLessUptoRow.holds Try.pinned (OpenSpec.upto odoLessSpec)

/-- 'tonneaulaw45.OdoKept', WHERE WHAT IT READS IS OF BULK AT MOST 1048576: true; the input reads as it did. -/
def odoKeptUptoRow : OpenClaim := { program := "ytbbjopgneophnaa", sum := "4f9374327fce6a2a901a50d2dc452fff6d32aaa2e9fbf9b5b5d1f25d62a469f8", func := "tonneau/tonneaulaw45.OdoKept", spec := "odoKept", unfollowed := true, recurses := true, apart := false, narrowed := true }
def OdoKeptUptoSaid : Prop := odoKeptUptoRow.holds Try.pinned (OpenSpec.upto odoKeptSpec)

/-- 'tonneaulaw45.OdoLater', WHERE WHAT IT READS IS OF BULK AT MOST 1048576: true; the input reads as it did. -/
def odoLaterUptoRow : OpenClaim := { program := "ytbbjopgneophnaa", sum := "4f9374327fce6a2a901a50d2dc452fff6d32aaa2e9fbf9b5b5d1f25d62a469f8", func := "tonneau/tonneaulaw45.OdoLater", spec := "odoLater", unfollowed := true, recurses := true, apart := false, narrowed := true }
def OdoLaterUptoSaid : Prop := odoLaterUptoRow.holds Try.pinned (OpenSpec.upto odoLaterSpec)

/-- 'tonneaulaw45.OdoGoes', WHERE WHAT IT READS IS OF BULK AT MOST 1048576: true; the input reads as it did. -/
def odoGoesUptoRow : OpenClaim := { program := "ytbbjopgneophnaa", sum := "4f9374327fce6a2a901a50d2dc452fff6d32aaa2e9fbf9b5b5d1f25d62a469f8", func := "tonneau/tonneaulaw45.OdoGoes", spec := "odoGoes", unfollowed := true, recurses := true, apart := false, narrowed := true }
def OdoGoesUptoSaid : Prop := odoGoesUptoRow.holds Try.pinned (OpenSpec.upto odoGoesSpec)

end Rows
end Go.Proofs.Ytbbjopgneophnaa
