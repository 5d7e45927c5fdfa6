/-
  No cell of these rows narrows 'for every input' (looked for: loops, veiled, ifaces, maps, wideKeys, modest, calm, conditions, laid).
  DERIVED. THE GIVEN ROWS OF THIS SEAT. 5 by the template 'for every input the law returns true; each argument reads behind the call as it read before'; 0 by the template 'total and deterministic' (their statements: YtjlofnjlhgbmoaaGreatTotals.lean).
  GIVEN WITH THE SEED: the statements are not yours to turn. If you find one false, say at which input.
  Laid BY PROGRAM, IN A SANDBOX (cutbox-rows.mjs): the forced cells as the released guide's own fill.sh prints them over the translation fb1597f4a9e05d76… (all of the seat's roots in one cut). By AI agents, Wed Nov 11 2026. No macro, syntax, notation, axiom, sorry.
-/
import Derived.Test.YtjlofnjlhgbmoaaGreatChecked
import GoSem.Claim
import GoSem.ClaimJoined
import GoSem.ClaimMapViews
import Derived.JoinedTies
import Derived.KernelRfl
namespace Go.Proofs.YtjlofnjlhgbmoaaGreat
/- THE CELL 'sum', in the pinned program and in every row, IS THE sha256 OF THE DUMP (.gsa) THAT YtjlofnjlhgbmoaaGreatProg.lean LOADS. Nothing in Lean hashes anything: it is a label: what it is worth is what the hold of that sum in a sandbox is worth. -/
noncomputable def Tryz.pinned : Pinned := { name := "ytjlofnjlhgbmoaagreat", sum := "fb1597f4a9e05d76c5b25584a2f4a371edd5bdb1eb9572c7bb722cae38972ce6", checked := Tryz.checked }
namespace Rows
def none {H : Type} : Left H := { results := [], args := [] }

/-- 'tonneaulaw21.InsertTells': WHATEVER THE INPUT: true; the input reads as it did. -/
def insertTellsSpec : ChangeSpec := { name := "insertTells", fn := fun _ => fun
  | [d1, d2, d3, d4, d5, d6, d7] => { results := [.lit (.bool true)], args := [d1, d2, d3, d4, d5, d6, d7] }
  | _ => none }
def insertTellsRow : OpenClaim := { program := "ytjlofnjlhgbmoaagreat", sum := "fb1597f4a9e05d76c5b25584a2f4a371edd5bdb1eb9572c7bb722cae38972ce6", func := "tonneau/tonneaulaw21.InsertTells", spec := "insertTells", inPlace := ["slices.overlaps[tonneau/api.Stop]"], unfollowed := true, recurses := true, apart := false }
def InsertTellsSaid : Prop := insertTellsRow.holds Tryz.pinned (OpenSpec.ofChange insertTellsSpec)

/-- ITS FALSE NEIGHBOUR: 'it returns false'. Refute it at one input. -/
def insertTellsWrong : ChangeSpec := { name := "insertTells", fn := fun _ => fun
  | [d1, d2, d3, d4, d5, d6, d7] => { results := [.lit (.bool false)], args := [d1, d2, d3, d4, d5, d6, d7] }
  | _ => none }
def InsertTellsWrongFalsely : Prop := insertTellsRow.holds Tryz.pinned (OpenSpec.ofChange insertTellsWrong)

/-- 'tonneaulaw21.InsertBest': WHATEVER THE INPUT: true; the input reads as it did. -/
def insertBestSpec : ChangeSpec := { name := "insertBest", fn := fun _ => fun
  | [d1, d2, d3] => { results := [.lit (.bool true)], args := [d1, d2, d3] }
  | _ => none }
def insertBestRow : OpenClaim := { program := "ytjlofnjlhgbmoaagreat", sum := "fb1597f4a9e05d76c5b25584a2f4a371edd5bdb1eb9572c7bb722cae38972ce6", func := "tonneau/tonneaulaw21.InsertBest", spec := "insertBest", inPlace := ["slices.overlaps[tonneau/api.Stop]"], unfollowed := true, recurses := true, apart := false }
def InsertBestSaid : Prop := insertBestRow.holds Tryz.pinned (OpenSpec.ofChange insertBestSpec)

/-- ITS FALSE NEIGHBOUR: 'it returns false'. Refute it at one input. -/
def insertBestWrong : ChangeSpec := { name := "insertBest", fn := fun _ => fun
  | [d1, d2, d3] => { results := [.lit (.bool false)], args := [d1, d2, d3] }
  | _ => none }
def InsertBestWrongFalsely : Prop := insertBestRow.holds Tryz.pinned (OpenSpec.ofChange insertBestWrong)

/-- 'tonneaulaw21.InsertKeeps': WHATEVER THE INPUT: true; the input reads as it did. -/
def insertKeepsSpec : ChangeSpec := { name := "insertKeeps", fn := fun _ => fun
  | [d1, d2, d3] => { results := [.lit (.bool true)], args := [d1, d2, d3] }
  | _ => none }
def insertKeepsRow : OpenClaim := { program := "ytjlofnjlhgbmoaagreat", sum := "fb1597f4a9e05d76c5b25584a2f4a371edd5bdb1eb9572c7bb722cae38972ce6", func := "tonneau/tonneaulaw21.InsertKeeps", spec := "insertKeeps", inPlace := ["slices.overlaps[tonneau/api.Stop]"], unfollowed := true, recurses := true, apart := false }
def InsertKeepsSaid : Prop := insertKeepsRow.holds Tryz.pinned (OpenSpec.ofChange insertKeepsSpec)

/-- ITS FALSE NEIGHBOUR: 'it returns false'. Refute it at one input. -/
def insertKeepsWrong : ChangeSpec := { name := "insertKeeps", fn := fun _ => fun
  | [d1, d2, d3] => { results := [.lit (.bool false)], args := [d1, d2, d3] }
  | _ => none }
def InsertKeepsWrongFalsely : Prop := insertKeepsRow.holds Tryz.pinned (OpenSpec.ofChange insertKeepsWrong)

/-- 'tonneaulaw21.InsertRoom': WHATEVER THE INPUT: true; the input reads as it did. -/
def insertRoomSpec : ChangeSpec := { name := "insertRoom", fn := fun _ => fun
  | [d1, d2, d3, d4, d5, d6] => { results := [.lit (.bool true)], args := [d1, d2, d3, d4, d5, d6] }
  | _ => none }
def insertRoomRow : OpenClaim := { program := "ytjlofnjlhgbmoaagreat", sum := "fb1597f4a9e05d76c5b25584a2f4a371edd5bdb1eb9572c7bb722cae38972ce6", func := "tonneau/tonneaulaw21.InsertRoom", spec := "insertRoom", inPlace := ["slices.overlaps[tonneau/api.Stop]"], unfollowed := true, recurses := true, apart := false }
def InsertRoomSaid : Prop := insertRoomRow.holds Tryz.pinned (OpenSpec.ofChange insertRoomSpec)

/-- ITS FALSE NEIGHBOUR: 'it returns false'. Refute it at one input. -/
def insertRoomWrong : ChangeSpec := { name := "insertRoom", fn := fun _ => fun
  | [d1, d2, d3, d4, d5, d6] => { results := [.lit (.bool false)], args := [d1, d2, d3, d4, d5, d6] }
  | _ => none }
def InsertRoomWrongFalsely : Prop := insertRoomRow.holds Tryz.pinned (OpenSpec.ofChange insertRoomWrong)

/-- 'tonneaulaw21.InsertChecks': WHATEVER THE INPUT: true; the input reads as it did. -/
def insertChecksSpec : ChangeSpec := { name := "insertChecks", fn := fun _ => fun
  | [d1, d2, d3, d4, d5] => { results := [.lit (.bool true)], args := [d1, d2, d3, d4, d5] }
  | _ => none }
def insertChecksRow : OpenClaim := { program := "ytjlofnjlhgbmoaagreat", sum := "fb1597f4a9e05d76c5b25584a2f4a371edd5bdb1eb9572c7bb722cae38972ce6", func := "tonneau/tonneaulaw21.InsertChecks", spec := "insertChecks", inPlace := ["slices.overlaps[tonneau/api.Stop]"], unfollowed := true, recurses := true, apart := false }
def InsertChecksSaid : Prop := insertChecksRow.holds Tryz.pinned (OpenSpec.ofChange insertChecksSpec)

/-- ITS FALSE NEIGHBOUR: 'it returns false'. Refute it at one input. -/
def insertChecksWrong : ChangeSpec := { name := "insertChecks", fn := fun _ => fun
  | [d1, d2, d3, d4, d5] => { results := [.lit (.bool false)], args := [d1, d2, d3, d4, d5] }
  | _ => none }
def InsertChecksWrongFalsely : Prop := insertChecksRow.holds Tryz.pinned (OpenSpec.ofChange insertChecksWrong)

/- THE SECOND FORM. 'bulk': how many values and letters a reading holds, each counted each time it is reached (what is shared counts as often as it is met; a slice's spare places count too). A statement '..UptoSaid' is the law's where the arguments, and the package variables that the reading takes, are together of bulk at most 1048576: NARROWER than '..Said'. Prove '..Said' where nothing that the law and all that it calls make is longer than what came in: it says more and counts as full. Else prove '..UptoSaid'. A law counts once. -/
mutual
def uptoBulk {H : Type} : DataW H → Nat
  | .lit (.string bytes) => bytes.length + 1
  | .lit _ => 1
  | .nil => 1
  | .ptr d => uptoBulk d + 1
  | .slice elems spare => uptoBulkAll elems + uptoBulkAll spare + 1
  | .agg parts => uptoBulkAll parts + 1
  | .iface _ d => uptoBulk d + 1
  | .map entries => uptoBulkEntries entries + 1
  | .held _ => 1
def uptoBulkAll {H : Type} : List (DataW H) → Nat
  | [] => 0
  | d :: r => uptoBulk d + uptoBulkAll r
def uptoBulkEntries {H : Type} : List (Lit × DataW H) → Nat
  | [] => 0
  | x :: r => uptoBulkEntry x + uptoBulkEntries r
def uptoBulkEntry {H : Type} : Lit × DataW H → Nat
  | (.string bytes, d) => bytes.length + uptoBulk d + 1
  | (_, d) => uptoBulk d + 1
 end
def uptoSmall : (H : Type) → List (DataW H) → Bool := fun _ ds => decide (uptoBulkAll ds ≤ 1048576)
def OpenSpec.upto (s : _root_.Go.ChangeSpec) : _root_.Go.OpenSpec := { _root_.Go.OpenSpec.ofChange s with cond := some uptoSmall }

/-- 'tonneaulaw21.InsertTells', WHERE WHAT IT READS IS OF BULK AT MOST 1048576: true; the input reads as it did. -/
def insertTellsUptoRow : OpenClaim := { program := "ytjlofnjlhgbmoaagreat", sum := "fb1597f4a9e05d76c5b25584a2f4a371edd5bdb1eb9572c7bb722cae38972ce6", func := "tonneau/tonneaulaw21.InsertTells", spec := "insertTells", inPlace := ["slices.overlaps[tonneau/api.Stop]"], unfollowed := true, recurses := true, apart := false, narrowed := true }
def InsertTellsUptoSaid : Prop := insertTellsUptoRow.holds Tryz.pinned (OpenSpec.upto insertTellsSpec)

/-- 'tonneaulaw21.InsertBest', WHERE WHAT IT READS IS OF BULK AT MOST 1048576: true; the input reads as it did. -/
def insertBestUptoRow : OpenClaim := { program := "ytjlofnjlhgbmoaagreat", sum := "fb1597f4a9e05d76c5b25584a2f4a371edd5bdb1eb9572c7bb722cae38972ce6", func := "tonneau/tonneaulaw21.InsertBest", spec := "insertBest", inPlace := ["slices.overlaps[tonneau/api.Stop]"], unfollowed := true, recurses := true, apart := false, narrowed := true }
def InsertBestUptoSaid : Prop := insertBestUptoRow.holds Tryz.pinned (OpenSpec.upto insertBestSpec)

/-- 'tonneaulaw21.InsertKeeps', WHERE WHAT IT READS IS OF BULK AT MOST 1048576: true; the input reads as it did. -/
def insertKeepsUptoRow : OpenClaim := { program := "ytjlofnjlhgbmoaagreat", sum := "fb1597f4a9e05d76c5b25584a2f4a371edd5bdb1eb9572c7bb722cae38972ce6", func := "tonneau/tonneaulaw21.InsertKeeps", spec := "insertKeeps", inPlace := ["slices.overlaps[tonneau/api.Stop]"], unfollowed := true, recurses := true, apart := false, narrowed := true }
def InsertKeepsUptoSaid : Prop := insertKeepsUptoRow.holds Tryz.pinned (OpenSpec.upto insertKeepsSpec)

/-- 'tonneaulaw21.InsertRoom', WHERE WHAT IT READS IS OF BULK AT MOST 1048576: true; the input reads as it did. -/
def insertRoomUptoRow : OpenClaim := { program := "ytjlofnjlhgbmoaagreat", sum := "fb1597f4a9e05d76c5b25584a2f4a371edd5bdb1eb9572c7bb722cae38972ce6", func := "tonneau/tonneaulaw21.InsertRoom", spec := "insertRoom", inPlace := ["slices.overlaps[tonneau/api.Stop]"], unfollowed := true, recurses := true, apart := false, narrowed := true }
def InsertRoomUptoSaid : Prop := insertRoomUptoRow.holds Tryz.pinned (OpenSpec.upto insertRoomSpec)

/-- 'tonneaulaw21.InsertChecks', WHERE WHAT IT READS IS OF BULK AT MOST 1048576: true; the input reads as it did. -/
def insertChecksUptoRow : OpenClaim := { program := "ytjlofnjlhgbmoaagreat", sum := "fb1597f4a9e05d76c5b25584a2f4a371edd5bdb1eb9572c7bb722cae38972ce6", func := "tonneau/tonneaulaw21.InsertChecks", spec := "insertChecks", inPlace := ["slices.overlaps[tonneau/api.Stop]"], unfollowed := true, recurses := true, apart := false, narrowed := true }
def InsertChecksUptoSaid : Prop := insertChecksUptoRow.holds Tryz.pinned (OpenSpec.upto insertChecksSpec)

end Rows
end Go.Proofs.YtjlofnjlhgbmoaaGreat
