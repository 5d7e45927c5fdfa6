/-
  No cell of these rows narrows 'for every input' (looked for: loops, veiled, ifaces, maps, wideKeys, modest, calm, conditions, laid).
  DERIVED. THE GIVEN ROWS OF THIS SEAT. 9 by the template 'for every input the law returns true; each argument reads behind the call as it read before'; 0 by the template 'total and deterministic' (their statements: YtcjgofcfinbpeaaTotals.lean).
  GIVEN WITH THE SEED: the statements are not yours to turn. If you find one false, say at which input.
  Laid BY PROGRAM, IN A SANDBOX (cutbox-rows.mjs): the forced cells as the released guide's own fill.sh prints them over the translation 23f995393eb4e7d7… (all of the seat's roots in one cut). By AI agents, Wed Nov 11 2026. No macro, syntax, notation, axiom, sorry.
-/
import Derived.Test.YtcjgofcfinbpeaaChecked
import GoSem.Claim
import GoSem.ClaimJoined
import GoSem.ClaimMapViews
import Derived.JoinedTies
import Derived.KernelRfl
namespace Go.Proofs.Ytcjgofcfinbpeaa
/- THE CELL 'sum', in the pinned program and in every row, IS THE sha256 OF THE DUMP (.gsa) THAT YtcjgofcfinbpeaaProg.lean LOADS. Nothing in Lean hashes anything: it is a label: what it is worth is what the hold of that sum in a sandbox is worth. -/
noncomputable def Try.pinned : Pinned := { name := "ytcjgofcfinbpeaa", sum := "23f995393eb4e7d7dcf4491729945687a8a3bad6b2de1a1f6e7d27c3ff2b4b05", checked := Try.checked }
namespace Rows
def none {H : Type} : Left H := { results := [], args := [] }

/-- 'tonneaulaw12.LabelTells': WHATEVER THE INPUT: true; the input reads as it did. -/
def labelTellsSpec : ChangeSpec := { name := "labelTells", fn := fun _ => fun
  | [d1, d2, d3, d4, d5, d6, d7] => { results := [.lit (.bool true)], args := [d1, d2, d3, d4, d5, d6, d7] }
  | _ => none }
def labelTellsRow : OpenClaim := { program := "ytcjgofcfinbpeaa", sum := "23f995393eb4e7d7dcf4491729945687a8a3bad6b2de1a1f6e7d27c3ff2b4b05", func := "tonneau/tonneaulaw12.LabelTells", spec := "labelTells", unfollowed := true, recurses := true, apart := false }
def LabelTellsSaid : Prop := labelTellsRow.holds Try.pinned (OpenSpec.ofChange labelTellsSpec)

/-- ITS FALSE NEIGHBOUR: 'it returns false'. Refute it at one input. -/
def labelTellsWrong : ChangeSpec := { name := "labelTells", fn := fun _ => fun
  | [d1, d2, d3, d4, d5, d6, d7] => { results := [.lit (.bool false)], args := [d1, d2, d3, d4, d5, d6, d7] }
  | _ => none }
def LabelTellsWrongFalsely : Prop := labelTellsRow.holds Try.pinned (OpenSpec.ofChange labelTellsWrong)

/-- 'tonneaulaw12.LabelSpan': WHATEVER THE INPUT: true; the input reads as it did. -/
def labelSpanSpec : ChangeSpec := { name := "labelSpan", fn := fun _ => fun
  | [d1, d2, d3, d4, d5] => { results := [.lit (.bool true)], args := [d1, d2, d3, d4, d5] }
  | _ => none }
def labelSpanRow : OpenClaim := { program := "ytcjgofcfinbpeaa", sum := "23f995393eb4e7d7dcf4491729945687a8a3bad6b2de1a1f6e7d27c3ff2b4b05", func := "tonneau/tonneaulaw12.LabelSpan", spec := "labelSpan", unfollowed := true, recurses := true, apart := false }
def LabelSpanSaid : Prop := labelSpanRow.holds Try.pinned (OpenSpec.ofChange labelSpanSpec)

/-- ITS FALSE NEIGHBOUR: 'it returns false'. Refute it at one input. -/
def labelSpanWrong : ChangeSpec := { name := "labelSpan", fn := fun _ => fun
  | [d1, d2, d3, d4, d5] => { results := [.lit (.bool false)], args := [d1, d2, d3, d4, d5] }
  | _ => none }
def LabelSpanWrongFalsely : Prop := labelSpanRow.holds Try.pinned (OpenSpec.ofChange labelSpanWrong)

/-- 'tonneaulaw11.RoadTells': WHATEVER THE INPUT: true; the input reads as it did. -/
def roadTellsSpec : ChangeSpec := { name := "roadTells", fn := fun _ => fun
  | [d1, d2, d3, d4, d5, d6, d7] => { results := [.lit (.bool true)], args := [d1, d2, d3, d4, d5, d6, d7] }
  | _ => none }
def roadTellsRow : OpenClaim := { program := "ytcjgofcfinbpeaa", sum := "23f995393eb4e7d7dcf4491729945687a8a3bad6b2de1a1f6e7d27c3ff2b4b05", func := "tonneau/tonneaulaw11.RoadTells", spec := "roadTells", unfollowed := true, recurses := true, apart := false }
def RoadTellsSaid : Prop := roadTellsRow.holds Try.pinned (OpenSpec.ofChange roadTellsSpec)

/-- ITS FALSE NEIGHBOUR: 'it returns false'. Refute it at one input. -/
def roadTellsWrong : ChangeSpec := { name := "roadTells", fn := fun _ => fun
  | [d1, d2, d3, d4, d5, d6, d7] => { results := [.lit (.bool false)], args := [d1, d2, d3, d4, d5, d6, d7] }
  | _ => none }
def RoadTellsWrongFalsely : Prop := roadTellsRow.holds Try.pinned (OpenSpec.ofChange roadTellsWrong)

/-- 'tonneaulaw11.RoadBest': WHATEVER THE INPUT: true; the input reads as it did. -/
def roadBestSpec : ChangeSpec := { name := "roadBest", fn := fun _ => fun
  | [d1, d2, d3, d4, d5] => { results := [.lit (.bool true)], args := [d1, d2, d3, d4, d5] }
  | _ => none }
def roadBestRow : OpenClaim := { program := "ytcjgofcfinbpeaa", sum := "23f995393eb4e7d7dcf4491729945687a8a3bad6b2de1a1f6e7d27c3ff2b4b05", func := "tonneau/tonneaulaw11.RoadBest", spec := "roadBest", unfollowed := true, recurses := true, apart := false }
def RoadBestSaid : Prop := roadBestRow.holds Try.pinned (OpenSpec.ofChange roadBestSpec)

/-- ITS FALSE NEIGHBOUR: 'it returns false'. Refute it at one input. -/
def roadBestWrong : ChangeSpec := { name := "roadBest", fn := fun _ => fun
  | [d1, d2, d3, d4, d5] => { results := [.lit (.bool false)], args := [d1, d2, d3, d4, d5] }
  | _ => none }
def RoadBestWrongFalsely : Prop := roadBestRow.holds Try.pinned (OpenSpec.ofChange roadBestWrong)

/-- 'tonneaulaw11.RoadLater': WHATEVER THE INPUT: true; the input reads as it did. -/
def roadLaterSpec : ChangeSpec := { name := "roadLater", fn := fun _ => fun
  | [d1, d2, d3, d4, d5, d6] => { results := [.lit (.bool true)], args := [d1, d2, d3, d4, d5, d6] }
  | _ => none }
def roadLaterRow : OpenClaim := { program := "ytcjgofcfinbpeaa", sum := "23f995393eb4e7d7dcf4491729945687a8a3bad6b2de1a1f6e7d27c3ff2b4b05", func := "tonneau/tonneaulaw11.RoadLater", spec := "roadLater", unfollowed := true, recurses := true, apart := false }
def RoadLaterSaid : Prop := roadLaterRow.holds Try.pinned (OpenSpec.ofChange roadLaterSpec)

/-- ITS FALSE NEIGHBOUR: 'it returns false'. Refute it at one input. -/
def roadLaterWrong : ChangeSpec := { name := "roadLater", fn := fun _ => fun
  | [d1, d2, d3, d4, d5, d6] => { results := [.lit (.bool false)], args := [d1, d2, d3, d4, d5, d6] }
  | _ => none }
def RoadLaterWrongFalsely : Prop := roadLaterRow.holds Try.pinned (OpenSpec.ofChange roadLaterWrong)

/-- 'tonneaulaw11.RoadLate': WHATEVER THE INPUT: true; the input reads as it did. -/
def roadLateSpec : ChangeSpec := { name := "roadLate", fn := fun _ => fun
  | [d1, d2, d3, d4] => { results := [.lit (.bool true)], args := [d1, d2, d3, d4] }
  | _ => none }
def roadLateRow : OpenClaim := { program := "ytcjgofcfinbpeaa", sum := "23f995393eb4e7d7dcf4491729945687a8a3bad6b2de1a1f6e7d27c3ff2b4b05", func := "tonneau/tonneaulaw11.RoadLate", spec := "roadLate", unfollowed := true, recurses := true, apart := false }
def RoadLateSaid : Prop := roadLateRow.holds Try.pinned (OpenSpec.ofChange roadLateSpec)

/-- ITS FALSE NEIGHBOUR: 'it returns false'. Refute it at one input. -/
def roadLateWrong : ChangeSpec := { name := "roadLate", fn := fun _ => fun
  | [d1, d2, d3, d4] => { results := [.lit (.bool false)], args := [d1, d2, d3, d4] }
  | _ => none }
def RoadLateWrongFalsely : Prop := roadLateRow.holds Try.pinned (OpenSpec.ofChange roadLateWrong)

/-- 'tonneaulaw12.LabelOnly': WHATEVER THE INPUT: true; the input reads as it did. -/
def labelOnlySpec : ChangeSpec := { name := "labelOnly", fn := fun _ => fun
  | [d1, d2, d3, d4, d5, d6] => { results := [.lit (.bool true)], args := [d1, d2, d3, d4, d5, d6] }
  | _ => none }
def labelOnlyRow : OpenClaim := { program := "ytcjgofcfinbpeaa", sum := "23f995393eb4e7d7dcf4491729945687a8a3bad6b2de1a1f6e7d27c3ff2b4b05", func := "tonneau/tonneaulaw12.LabelOnly", spec := "labelOnly", unfollowed := true, recurses := true, apart := false }
def LabelOnlySaid : Prop := labelOnlyRow.holds Try.pinned (OpenSpec.ofChange labelOnlySpec)

/-- ITS FALSE NEIGHBOUR: 'it returns false'. Refute it at one input. -/
def labelOnlyWrong : ChangeSpec := { name := "labelOnly", fn := fun _ => fun
  | [d1, d2, d3, d4, d5, d6] => { results := [.lit (.bool false)], args := [d1, d2, d3, d4, d5, d6] }
  | _ => none }
def LabelOnlyWrongFalsely : Prop := labelOnlyRow.holds Try.pinned (OpenSpec.ofChange labelOnlyWrong)

/-- 'tonneaulaw12.LabelArrives': WHATEVER THE INPUT: true; the input reads as it did. -/
def labelArrivesSpec : ChangeSpec := { name := "labelArrives", fn := fun _ => fun
  | [d1, d2, d3, d4, d5] => { results := [.lit (.bool true)], args := [d1, d2, d3, d4, d5] }
  | _ => none }
def labelArrivesRow : OpenClaim := { program := "ytcjgofcfinbpeaa", sum := "23f995393eb4e7d7dcf4491729945687a8a3bad6b2de1a1f6e7d27c3ff2b4b05", func := "tonneau/tonneaulaw12.LabelArrives", spec := "labelArrives", unfollowed := true, recurses := true, apart := false }
def LabelArrivesSaid : Prop := labelArrivesRow.holds Try.pinned (OpenSpec.ofChange labelArrivesSpec)

/-- ITS FALSE NEIGHBOUR: 'it returns false'. Refute it at one input. -/
def labelArrivesWrong : ChangeSpec := { name := "labelArrives", fn := fun _ => fun
  | [d1, d2, d3, d4, d5] => { results := [.lit (.bool false)], args := [d1, d2, d3, d4, d5] }
  | _ => none }
def LabelArrivesWrongFalsely : Prop := labelArrivesRow.holds Try.pinned (OpenSpec.ofChange labelArrivesWrong)

/-- 'tonneaulaw12.LabelWays': WHATEVER THE INPUT: true; the input reads as it did. -/
def labelWaysSpec : ChangeSpec := { name := "labelWays", fn := fun _ => fun
  | [d1, d2, d3, d4, d5] => { results := [.lit (.bool true)], args := [d1, d2, d3, d4, d5] }
  | _ => none }
def labelWaysRow : OpenClaim := { program := "ytcjgofcfinbpeaa", sum := "23f995393eb4e7d7dcf4491729945687a8a3bad6b2de1a1f6e7d27c3ff2b4b05", func := "tonneau/tonneaulaw12.LabelWays", spec := "labelWays", unfollowed := true, recurses := true, apart := false }
def LabelWaysSaid : Prop := labelWaysRow.holds Try.pinned (OpenSpec.ofChange labelWaysSpec)

/-- ITS FALSE NEIGHBOUR: 'it returns false'. Refute it at one input. -/
def labelWaysWrong : ChangeSpec := { name := "labelWays", fn := fun _ => fun
  | [d1, d2, d3, d4, d5] => { results := [.lit (.bool false)], args := [d1, d2, d3, d4, d5] }
  | _ => none }
def LabelWaysWrongFalsely : Prop := labelWaysRow.holds Try.pinned (OpenSpec.ofChange labelWaysWrong)

/- THE SECOND FORM. 'bulk': how many values and letters a reading holds, each counted each time it is reached (what is shared counts as often as it is met; a slice's spare places count too). A statement '..UptoSaid' is the law's where the arguments, and the package variables that the reading takes, are together of bulk at most 1048576: NARROWER than '..Said'. Prove '..Said' where nothing that the law and all that it calls make is longer than what came in: it says more and counts as full. Else prove '..UptoSaid'. A law counts once. -/
mutual
def uptoBulk {H : Type} : DataW H → Nat
  | .lit (.string bytes) => bytes.length + 1
  | .lit _ => 1
  | .nil => 1
  | .ptr d => uptoBulk d + 1
  | .slice elems spare => uptoBulkAll elems + uptoBulkAll spare + 1
  | .agg parts => uptoBulkAll parts + 1
  | .iface _ d => uptoBulk d + 1
  | .map entries => uptoBulkEntries entries + 1
  | .held _ => 1
def uptoBulkAll {H : Type} : List (DataW H) → Nat
  | [] => 0
  | d :: r => uptoBulk d + uptoBulkAll r
def uptoBulkEntries {H : Type} : List (Lit × DataW H) → Nat
  | [] => 0
  | x :: r => uptoBulkEntry x + uptoBulkEntries r
def uptoBulkEntry {H : Type} : Lit × DataW H → Nat
  | (.string bytes, d) => bytes.length + uptoBulk d + 1
  | (_, d) => uptoBulk d + 1
 end
def uptoSmall : (H : Type) → List (DataW H) → Bool := fun _ ds => decide (uptoBulkAll ds ≤ 1048576)
def OpenSpec.upto (s : _root_.Go.ChangeSpec) : _root_.Go.OpenSpec := { _root_.Go.OpenSpec.ofChange s with cond := some uptoSmall }

/-- 'tonneaulaw12.LabelTells', WHERE WHAT IT READS IS OF BULK AT MOST 1048576: true; the input reads as it did. -/
def labelTellsUptoRow : OpenClaim := { program := "ytcjgofcfinbpeaa", sum := "23f995393eb4e7d7dcf4491729945687a8a3bad6b2de1a1f6e7d27c3ff2b4b05", func := "tonneau/tonneaulaw12.LabelTells", spec := "labelTells", unfollowed := true, recurses := true, apart := false, narrowed := true }
def LabelTellsUptoSaid : Prop := labelTellsUptoRow.holds Try.pinned (OpenSpec.upto labelTellsSpec)

/-- 'tonneaulaw12.LabelSpan', WHERE WHAT IT READS IS OF BULK AT MOST 1048576: true; the input reads as it did. -/
def labelSpanUptoRow : OpenClaim := { program := "ytcjgofcfinbpeaa", sum := "23f995393eb4e7d7dcf4491729945687a8a3bad6b2de1a1f6e7d27c3ff2b4b05", func := "tonneau/tonneaulaw12.LabelSpan", spec := "labelSpan", unfollowed := true, recurses := true, apart := false, narrowed := true }
def LabelSpanUptoSaid : Prop := labelSpanUptoRow.holds Try.pinned (OpenSpec.upto labelSpanSpec)

/-- 'tonneaulaw11.RoadTells', WHERE WHAT IT READS IS OF BULK AT MOST 1048576: true; the input reads as it did. -/
def roadTellsUptoRow : OpenClaim := { program := "ytcjgofcfinbpeaa", sum := "23f995393eb4e7d7dcf4491729945687a8a3bad6b2de1a1f6e7d27c3ff2b4b05", func := "tonneau/tonneaulaw11.RoadTells", spec := "roadTells", unfollowed := true, recurses := true, apart := false, narrowed := true }
def RoadTellsUptoSaid : Prop := roadTellsUptoRow.holds Try.pinned (OpenSpec.upto roadTellsSpec)

/-- 'tonneaulaw11.RoadBest', WHERE WHAT IT READS IS OF BULK AT MOST 1048576: true; the input reads as it did. -/
def roadBestUptoRow : OpenClaim := { program := "ytcjgofcfinbpeaa", sum := "23f995393eb4e7d7dcf4491729945687a8a3bad6b2de1a1f6e7d27c3ff2b4b05", func := "tonneau/tonneaulaw11.RoadBest", spec := "roadBest", unfollowed := true, recurses := true, apart := false, narrowed := true }
def RoadBestUptoSaid : Prop := roadBestUptoRow.holds Try.pinned (OpenSpec.upto roadBestSpec)

/-- 'tonneaulaw11.RoadLater', WHERE WHAT IT READS IS OF BULK AT MOST 1048576: true; the input reads as it did. -/
def roadLaterUptoRow : OpenClaim := { program := "ytcjgofcfinbpeaa", sum := "23f995393eb4e7d7dcf4491729945687a8a3bad6b2de1a1f6e7d27c3ff2b4b05", func := "tonneau/tonneaulaw11.RoadLater", spec := "roadLater", unfollowed := true, recurses := true, apart := false, narrowed := true }
def RoadLaterUptoSaid : Prop := roadLaterUptoRow.holds Try.pinned (OpenSpec.upto roadLaterSpec)

/-- 'tonneaulaw11.RoadLate', WHERE WHAT IT READS IS OF BULK AT MOST 1048576: true; the input reads as it did. -/
def roadLateUptoRow : OpenClaim := { program := "ytcjgofcfinbpeaa", sum := "23f995393eb4e7d7dcf4491729945687a8a3bad6b2de1a1f6e7d27c3ff2b4b05", func := "tonneau/tonneaulaw11.RoadLate", spec := "roadLate", unfollowed := true, recurses := true, apart := false, narrowed := true }
def RoadLateUptoSaid : Prop := roadLateUptoRow.holds Try.pinned (OpenSpec.upto roadLateSpec)

/-- 'tonneaulaw12.LabelOnly', WHERE WHAT IT READS IS OF BULK AT MOST 1048576: true; the input reads as it did. -/
def labelOnlyUptoRow : OpenClaim := { program := "ytcjgofcfinbpeaa", sum := "23f995393eb4e7d7dcf4491729945687a8a3bad6b2de1a1f6e7d27c3ff2b4b05", func := "tonneau/tonneaulaw12.LabelOnly", spec := "labelOnly", unfollowed := true, recurses := true, apart := false, narrowed := true }
def LabelOnlyUptoSaid : Prop := labelOnlyUptoRow.holds Try.pinned (OpenSpec.upto labelOnlySpec)

/-- 'tonneaulaw12.LabelArrives', WHERE WHAT IT READS IS OF BULK AT MOST 1048576: true; the input reads as it did. -/
def labelArrivesUptoRow : OpenClaim := { program := "ytcjgofcfinbpeaa", sum := "23f995393eb4e7d7dcf4491729945687a8a3bad6b2de1a1f6e7d27c3ff2b4b05", func := "tonneau/tonneaulaw12.LabelArrives", spec := "labelArrives", unfollowed := true, recurses := true, apart := false, narrowed := true }
def LabelArrivesUptoSaid : Prop := labelArrivesUptoRow.holds Try.pinned (OpenSpec.upto labelArrivesSpec)

/-- 'tonneaulaw12.LabelWays', WHERE WHAT IT READS IS OF BULK AT MOST 1048576: true; the input reads as it did. -/
def labelWaysUptoRow : OpenClaim := { program := "ytcjgofcfinbpeaa", sum := "23f995393eb4e7d7dcf4491729945687a8a3bad6b2de1a1f6e7d27c3ff2b4b05", func := "tonneau/tonneaulaw12.LabelWays", spec := "labelWays", unfollowed := true, recurses := true, apart := false, narrowed := true }
def LabelWaysUptoSaid : Prop := labelWaysUptoRow.holds Try.pinned (OpenSpec.upto labelWaysSpec)

end Rows
end Go.Proofs.Ytcjgofcfinbpeaa
