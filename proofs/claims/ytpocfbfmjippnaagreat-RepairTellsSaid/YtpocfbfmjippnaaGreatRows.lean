/-
  No cell of these rows narrows 'for every input' (looked for: loops, veiled, ifaces, maps, wideKeys, modest, calm, conditions, laid).
  DERIVED. THE GIVEN ROWS OF THIS SEAT. 4 by the template 'for every input the law returns true; each argument reads behind the call as it read before'; 0 by the template 'total and deterministic' (their statements: YtpocfbfmjippnaaGreatTotals.lean).
  GIVEN WITH THE SEED: the statements are not yours to turn. If you find one false, say at which input.
  Laid BY PROGRAM, IN A SANDBOX (cutbox-rows.mjs): the forced cells as the released guide's own fill.sh prints them over the translation 9d0ef429131a22b5… (all of the seat's roots in one cut). By AI agents, Wed Nov 11 2026. No macro, syntax, notation, axiom, sorry.
-/
import Derived.Test.YtpocfbfmjippnaaGreatChecked
import GoSem.Claim
import GoSem.ClaimJoined
import GoSem.ClaimMapViews
import Derived.JoinedTies
import Derived.KernelRfl
namespace Go.Proofs.YtpocfbfmjippnaaGreat
/- THE CELL 'sum', in the pinned program and in every row, IS THE sha256 OF THE DUMP (.gsa) THAT YtpocfbfmjippnaaGreatProg.lean LOADS. Nothing in Lean hashes anything: it is a label: what it is worth is what the hold of that sum in a sandbox is worth. -/
noncomputable def Tryz.pinned : Pinned := { name := "ytpocfbfmjippnaagreat", sum := "9d0ef429131a22b5093454827b67eab8b79454896d09f9877a9e9c9b2382f3f8", checked := Tryz.checked }
namespace Rows
def none {H : Type} : Left H := { results := [], args := [] }

/-- 'tonneaulaw38.RepairTells': WHATEVER THE INPUT: true; the input reads as it did. -/
def repairTellsSpec : ChangeSpec := { name := "repairTells", fn := fun _ => fun
  | [d1, d2, d3, d4, d5, d6, d7] => { results := [.lit (.bool true)], args := [d1, d2, d3, d4, d5, d6, d7] }
  | _ => none }
def repairTellsRow : OpenClaim := { program := "ytpocfbfmjippnaagreat", sum := "9d0ef429131a22b5093454827b67eab8b79454896d09f9877a9e9c9b2382f3f8", func := "tonneau/tonneaulaw38.RepairTells", spec := "repairTells", inPlace := ["slices.overlaps[tonneau/api.Stop]"], unfollowed := true, recurses := true, apart := false }
def RepairTellsSaid : Prop := repairTellsRow.holds Tryz.pinned (OpenSpec.ofChange repairTellsSpec)

/-- ITS FALSE NEIGHBOUR: 'it returns false'. Refute it at one input. -/
def repairTellsWrong : ChangeSpec := { name := "repairTells", fn := fun _ => fun
  | [d1, d2, d3, d4, d5, d6, d7] => { results := [.lit (.bool false)], args := [d1, d2, d3, d4, d5, d6, d7] }
  | _ => none }
def RepairTellsWrongFalsely : Prop := repairTellsRow.holds Tryz.pinned (OpenSpec.ofChange repairTellsWrong)

/-- 'tonneaulaw38.RepairBest': WHATEVER THE INPUT: true; the input reads as it did. -/
def repairBestSpec : ChangeSpec := { name := "repairBest", fn := fun _ => fun
  | [d1, d2, d3, d4] => { results := [.lit (.bool true)], args := [d1, d2, d3, d4] }
  | _ => none }
def repairBestRow : OpenClaim := { program := "ytpocfbfmjippnaagreat", sum := "9d0ef429131a22b5093454827b67eab8b79454896d09f9877a9e9c9b2382f3f8", func := "tonneau/tonneaulaw38.RepairBest", spec := "repairBest", inPlace := ["slices.overlaps[tonneau/api.Stop]"], unfollowed := true, recurses := true, apart := false }
def RepairBestSaid : Prop := repairBestRow.holds Tryz.pinned (OpenSpec.ofChange repairBestSpec)

/-- ITS FALSE NEIGHBOUR: 'it returns false'. Refute it at one input. -/
def repairBestWrong : ChangeSpec := { name := "repairBest", fn := fun _ => fun
  | [d1, d2, d3, d4] => { results := [.lit (.bool false)], args := [d1, d2, d3, d4] }
  | _ => none }
def RepairBestWrongFalsely : Prop := repairBestRow.holds Tryz.pinned (OpenSpec.ofChange repairBestWrong)

/-- 'tonneaulaw38.RepairKeeps': WHATEVER THE INPUT: true; the input reads as it did. -/
def repairKeepsSpec : ChangeSpec := { name := "repairKeeps", fn := fun _ => fun
  | [d1, d2, d3, d4] => { results := [.lit (.bool true)], args := [d1, d2, d3, d4] }
  | _ => none }
def repairKeepsRow : OpenClaim := { program := "ytpocfbfmjippnaagreat", sum := "9d0ef429131a22b5093454827b67eab8b79454896d09f9877a9e9c9b2382f3f8", func := "tonneau/tonneaulaw38.RepairKeeps", spec := "repairKeeps", inPlace := ["slices.overlaps[tonneau/api.Stop]"], unfollowed := true, recurses := true, apart := false }
def RepairKeepsSaid : Prop := repairKeepsRow.holds Tryz.pinned (OpenSpec.ofChange repairKeepsSpec)

/-- ITS FALSE NEIGHBOUR: 'it returns false'. Refute it at one input. -/
def repairKeepsWrong : ChangeSpec := { name := "repairKeeps", fn := fun _ => fun
  | [d1, d2, d3, d4] => { results := [.lit (.bool false)], args := [d1, d2, d3, d4] }
  | _ => none }
def RepairKeepsWrongFalsely : Prop := repairKeepsRow.holds Tryz.pinned (OpenSpec.ofChange repairKeepsWrong)

/-- 'tonneaulaw38.RepairMore': WHATEVER THE INPUT: true; the input reads as it did. -/
def repairMoreSpec : ChangeSpec := { name := "repairMore", fn := fun _ => fun
  | [d1, d2, d3, d4] => { results := [.lit (.bool true)], args := [d1, d2, d3, d4] }
  | _ => none }
def repairMoreRow : OpenClaim := { program := "ytpocfbfmjippnaagreat", sum := "9d0ef429131a22b5093454827b67eab8b79454896d09f9877a9e9c9b2382f3f8", func := "tonneau/tonneaulaw38.RepairMore", spec := "repairMore", inPlace := ["slices.overlaps[tonneau/api.Stop]"], unfollowed := true, recurses := true, apart := false }
def RepairMoreSaid : Prop := repairMoreRow.holds Tryz.pinned (OpenSpec.ofChange repairMoreSpec)

/-- ITS FALSE NEIGHBOUR: 'it returns false'. Refute it at one input. -/
def repairMoreWrong : ChangeSpec := { name := "repairMore", fn := fun _ => fun
  | [d1, d2, d3, d4] => { results := [.lit (.bool false)], args := [d1, d2, d3, d4] }
  | _ => none }
def RepairMoreWrongFalsely : Prop := repairMoreRow.holds Tryz.pinned (OpenSpec.ofChange repairMoreWrong)

/- THE SECOND FORM. 'bulk': how many values and letters a reading holds, each counted each time it is reached (what is shared counts as often as it is met; a slice's spare places count too). A statement '..UptoSaid' is the law's where the arguments, and the package variables that the reading takes, are together of bulk at most 1048576: NARROWER than '..Said'. Prove '..Said' where nothing that the law and all that it calls make is longer than what came in: it says more and counts as full. Else prove '..UptoSaid'. A law counts once. -/
mutual
def uptoBulk {H : Type} : DataW H → Nat
  | .lit (.string bytes) => bytes.length + 1
  | .lit _ => 1
  | .nil => 1
  | .ptr d => uptoBulk d + 1
  | .slice elems spare => uptoBulkAll elems + uptoBulkAll spare + 1
  | .agg parts => uptoBulkAll parts + 1
  | .iface _ d => uptoBulk d + 1
  | .map entries => uptoBulkEntries entries + 1
  | .held _ => 1
def uptoBulkAll {H : Type} : List (DataW H) → Nat
  | [] => 0
  | d :: r => uptoBulk d + uptoBulkAll r
def uptoBulkEntries {H : Type} : List (Lit × DataW H) → Nat
  | [] => 0
  | x :: r => uptoBulkEntry x + uptoBulkEntries r
def uptoBulkEntry {H : Type} : Lit × DataW H → Nat
  | (.string bytes, d) => bytes.length + uptoBulk d + 1
  | (_, d) => uptoBulk d + 1
 end
def uptoSmall : (H : Type) → List (DataW H) → Bool := fun _ ds => decide (uptoBulkAll ds ≤ 1048576)
def OpenSpec.upto (s : _root_.Go.ChangeSpec) : _root_.Go.OpenSpec := { _root_.Go.OpenSpec.ofChange s with cond := some uptoSmall }

/-- 'tonneaulaw38.RepairTells', WHERE WHAT IT READS IS OF BULK AT MOST 1048576: true; the input reads as it did. -/
def repairTellsUptoRow : OpenClaim := { program := "ytpocfbfmjippnaagreat", sum := "9d0ef429131a22b5093454827b67eab8b79454896d09f9877a9e9c9b2382f3f8", func := "tonneau/tonneaulaw38.RepairTells", spec := "repairTells", inPlace := ["slices.overlaps[tonneau/api.Stop]"], unfollowed := true, recurses := true, apart := false, narrowed := true }
def RepairTellsUptoSaid : Prop := repairTellsUptoRow.holds Tryz.pinned (OpenSpec.upto repairTellsSpec)

/-- 'tonneaulaw38.RepairBest', WHERE WHAT IT READS IS OF BULK AT MOST 1048576: true; the input reads as it did. -/
def repairBestUptoRow : OpenClaim := { program := "ytpocfbfmjippnaagreat", sum := "9d0ef429131a22b5093454827b67eab8b79454896d09f9877a9e9c9b2382f3f8", func := "tonneau/tonneaulaw38.RepairBest", spec := "repairBest", inPlace := ["slices.overlaps[tonneau/api.Stop]"], unfollowed := true, recurses := true, apart := false, narrowed := true }
def RepairBestUptoSaid : Prop := repairBestUptoRow.holds Tryz.pinned (OpenSpec.upto repairBestSpec)

/-- 'tonneaulaw38.RepairKeeps', WHERE WHAT IT READS IS OF BULK AT MOST 1048576: true; the input reads as it did. -/
def repairKeepsUptoRow : OpenClaim := { program := "ytpocfbfmjippnaagreat", sum := "9d0ef429131a22b5093454827b67eab8b79454896d09f9877a9e9c9b2382f3f8", func := "tonneau/tonneaulaw38.RepairKeeps", spec := "repairKeeps", inPlace := ["slices.overlaps[tonneau/api.Stop]"], unfollowed := true, recurses := true, apart := false, narrowed := true }
def RepairKeepsUptoSaid : Prop := repairKeepsUptoRow.holds Tryz.pinned (OpenSpec.upto repairKeepsSpec)

/-- 'tonneaulaw38.RepairMore', WHERE WHAT IT READS IS OF BULK AT MOST 1048576: true; the input reads as it did. -/
def repairMoreUptoRow : OpenClaim := { program := "ytpocfbfmjippnaagreat", sum := "9d0ef429131a22b5093454827b67eab8b79454896d09f9877a9e9c9b2382f3f8", func := "tonneau/tonneaulaw38.RepairMore", spec := "repairMore", inPlace := ["slices.overlaps[tonneau/api.Stop]"], unfollowed := true, recurses := true, apart := false, narrowed := true }
def RepairMoreUptoSaid : Prop := repairMoreUptoRow.holds Tryz.pinned (OpenSpec.upto repairMoreSpec)

end Rows
end Go.Proofs.YtpocfbfmjippnaaGreat
