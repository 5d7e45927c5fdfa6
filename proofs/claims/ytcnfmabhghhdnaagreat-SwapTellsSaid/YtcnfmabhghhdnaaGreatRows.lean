/-
  No cell of these rows narrows 'for every input' (looked for: loops, veiled, ifaces, maps, wideKeys, modest, calm, conditions, laid).
  DERIVED. THE GIVEN ROWS OF THIS SEAT. 4 by the template 'for every input the law returns true; each argument reads behind the call as it read before'; 0 by the template 'total and deterministic' (their statements: YtcnfmabhghhdnaaGreatTotals.lean).
  GIVEN WITH THE SEED: the statements are not yours to turn. If you find one false, say at which input.
  Laid BY PROGRAM, IN A SANDBOX (cutbox-rows.mjs): the forced cells as the released guide's own fill.sh prints them over the translation 169a093098c5fd44… (all of the seat's roots in one cut). By AI agents, Wed Nov 11 2026. No macro, syntax, notation, axiom, sorry.
-/
import Derived.Test.YtcnfmabhghhdnaaGreatChecked
import GoSem.Claim
import GoSem.ClaimJoined
import GoSem.ClaimMapViews
import Derived.JoinedTies
import Derived.KernelRfl
namespace Go.Proofs.YtcnfmabhghhdnaaGreat
/- THE CELL 'sum', in the pinned program and in every row, IS THE sha256 OF THE DUMP (.gsa) THAT YtcnfmabhghhdnaaGreatProg.lean LOADS. Nothing in Lean hashes anything: it is a label: what it is worth is what the hold of that sum in a sandbox is worth. -/
noncomputable def Tryz.pinned : Pinned := { name := "ytcnfmabhghhdnaagreat", sum := "169a093098c5fd44f16790f72a7936fe1d85d7bba605d30e7a3a20ad0b9df178", checked := Tryz.checked }
namespace Rows
def none {H : Type} : Left H := { results := [], args := [] }

/-- 'tonneaulaw23.SwapTells': WHATEVER THE INPUT: true; the input reads as it did. -/
def swapTellsSpec : ChangeSpec := { name := "swapTells", fn := fun _ => fun
  | [d1, d2, d3] => { results := [.lit (.bool true)], args := [d1, d2, d3] }
  | _ => none }
def swapTellsRow : OpenClaim := { program := "ytcnfmabhghhdnaagreat", sum := "169a093098c5fd44f16790f72a7936fe1d85d7bba605d30e7a3a20ad0b9df178", func := "tonneau/tonneaulaw23.SwapTells", spec := "swapTells", inPlace := ["slices.overlaps[tonneau/api.Stop]"], unfollowed := true, recurses := true, apart := false }
def SwapTellsSaid : Prop := swapTellsRow.holds Tryz.pinned (OpenSpec.ofChange swapTellsSpec)

/-- ITS FALSE NEIGHBOUR: 'it returns false'. Refute it at one input. -/
def swapTellsWrong : ChangeSpec := { name := "swapTells", fn := fun _ => fun
  | [d1, d2, d3] => { results := [.lit (.bool false)], args := [d1, d2, d3] }
  | _ => none }
def SwapTellsWrongFalsely : Prop := swapTellsRow.holds Tryz.pinned (OpenSpec.ofChange swapTellsWrong)

/-- 'tonneaulaw23.SwapBest': WHATEVER THE INPUT: true; the input reads as it did. -/
def swapBestSpec : ChangeSpec := { name := "swapBest", fn := fun _ => fun
  | [d1, d2, d3] => { results := [.lit (.bool true)], args := [d1, d2, d3] }
  | _ => none }
def swapBestRow : OpenClaim := { program := "ytcnfmabhghhdnaagreat", sum := "169a093098c5fd44f16790f72a7936fe1d85d7bba605d30e7a3a20ad0b9df178", func := "tonneau/tonneaulaw23.SwapBest", spec := "swapBest", inPlace := ["slices.overlaps[tonneau/api.Stop]"], unfollowed := true, recurses := true, apart := false }
def SwapBestSaid : Prop := swapBestRow.holds Tryz.pinned (OpenSpec.ofChange swapBestSpec)

/-- ITS FALSE NEIGHBOUR: 'it returns false'. Refute it at one input. -/
def swapBestWrong : ChangeSpec := { name := "swapBest", fn := fun _ => fun
  | [d1, d2, d3] => { results := [.lit (.bool false)], args := [d1, d2, d3] }
  | _ => none }
def SwapBestWrongFalsely : Prop := swapBestRow.holds Tryz.pinned (OpenSpec.ofChange swapBestWrong)

/-- 'tonneaulaw23.SwapMoves': WHATEVER THE INPUT: true; the input reads as it did. -/
def swapMovesSpec : ChangeSpec := { name := "swapMoves", fn := fun _ => fun
  | [d1, d2] => { results := [.lit (.bool true)], args := [d1, d2] }
  | _ => none }
def swapMovesRow : OpenClaim := { program := "ytcnfmabhghhdnaagreat", sum := "169a093098c5fd44f16790f72a7936fe1d85d7bba605d30e7a3a20ad0b9df178", func := "tonneau/tonneaulaw23.SwapMoves", spec := "swapMoves", inPlace := ["slices.overlaps[tonneau/api.Stop]"], unfollowed := true, recurses := true, apart := false }
def SwapMovesSaid : Prop := swapMovesRow.holds Tryz.pinned (OpenSpec.ofChange swapMovesSpec)

/-- ITS FALSE NEIGHBOUR: 'it returns false'. Refute it at one input. -/
def swapMovesWrong : ChangeSpec := { name := "swapMoves", fn := fun _ => fun
  | [d1, d2] => { results := [.lit (.bool false)], args := [d1, d2] }
  | _ => none }
def SwapMovesWrongFalsely : Prop := swapMovesRow.holds Tryz.pinned (OpenSpec.ofChange swapMovesWrong)

/-- 'tonneaulaw23.SwapBack': WHATEVER THE INPUT: true; the input reads as it did. -/
def swapBackSpec : ChangeSpec := { name := "swapBack", fn := fun _ => fun
  | [d1, d2, d3] => { results := [.lit (.bool true)], args := [d1, d2, d3] }
  | _ => none }
def swapBackRow : OpenClaim := { program := "ytcnfmabhghhdnaagreat", sum := "169a093098c5fd44f16790f72a7936fe1d85d7bba605d30e7a3a20ad0b9df178", func := "tonneau/tonneaulaw23.SwapBack", spec := "swapBack", inPlace := ["slices.overlaps[tonneau/api.Stop]"], unfollowed := true, recurses := true, apart := false }
def SwapBackSaid : Prop := swapBackRow.holds Tryz.pinned (OpenSpec.ofChange swapBackSpec)

/-- ITS FALSE NEIGHBOUR: 'it returns false'. Refute it at one input. -/
def swapBackWrong : ChangeSpec := { name := "swapBack", fn := fun _ => fun
  | [d1, d2, d3] => { results := [.lit (.bool false)], args := [d1, d2, d3] }
  | _ => none }
def SwapBackWrongFalsely : Prop := swapBackRow.holds Tryz.pinned (OpenSpec.ofChange swapBackWrong)

/- THE SECOND FORM. 'bulk': how many values and letters a reading holds, each counted each time it is reached (what is shared counts as often as it is met; a slice's spare places count too). A statement '..UptoSaid' is the law's where the arguments, and the package variables that the reading takes, are together of bulk at most 1048576: NARROWER than '..Said'. Prove '..Said' where nothing that the law and all that it calls make is longer than what came in: it says more and counts as full. Else prove '..UptoSaid'. A law counts once. -/
mutual
def uptoBulk {H : Type} : DataW H → Nat
  | .lit (.string bytes) => bytes.length + 1
  | .lit _ => 1
  | .nil => 1
  | .ptr d => uptoBulk d + 1
  | .slice elems spare => uptoBulkAll elems + uptoBulkAll spare + 1
  | .agg parts => uptoBulkAll parts + 1
  | .iface _ d => uptoBulk d + 1
  | .map entries => uptoBulkEntries entries + 1
  | .held _ => 1
def uptoBulkAll {H : Type} : List (DataW H) → Nat
  | [] => 0
  | d :: r => uptoBulk d + uptoBulkAll r
def uptoBulkEntries {H : Type} : List (Lit × DataW H) → Nat
  | [] => 0
  | x :: r => uptoBulkEntry x + uptoBulkEntries r
def uptoBulkEntry {H : Type} : Lit × DataW H → Nat
  | (.string bytes, d) => bytes.length + uptoBulk d + 1
  | (_, d) => uptoBulk d + 1
 end
def uptoSmall : (H : Type) → List (DataW H) → Bool := fun _ ds => decide (uptoBulkAll ds ≤ 1048576)
def OpenSpec.upto (s : _root_.Go.ChangeSpec) : _root_.Go.OpenSpec := { _root_.Go.OpenSpec.ofChange s with cond := some uptoSmall }

/-- 'tonneaulaw23.SwapTells', WHERE WHAT IT READS IS OF BULK AT MOST 1048576: true; the input reads as it did. -/
def swapTellsUptoRow : OpenClaim := { program := "ytcnfmabhghhdnaagreat", sum := "169a093098c5fd44f16790f72a7936fe1d85d7bba605d30e7a3a20ad0b9df178", func := "tonneau/tonneaulaw23.SwapTells", spec := "swapTells", inPlace := ["slices.overlaps[tonneau/api.Stop]"], unfollowed := true, recurses := true, apart := false, narrowed := true }
def SwapTellsUptoSaid : Prop := swapTellsUptoRow.holds Tryz.pinned (OpenSpec.upto swapTellsSpec)

/-- 'tonneaulaw23.SwapBest', WHERE WHAT IT READS IS OF BULK AT MOST 1048576: true; the input reads as it did. -/
def swapBestUptoRow : OpenClaim := { program := "ytcnfmabhghhdnaagreat", sum := "169a093098c5fd44f16790f72a7936fe1d85d7bba605d30e7a3a20ad0b9df178", func := "tonneau/tonneaulaw23.SwapBest", spec := "swapBest", inPlace := ["slices.overlaps[tonneau/api.Stop]"], unfollowed := true, recurses := true, apart := false, narrowed := true }
def SwapBestUptoSaid : Prop := swapBestUptoRow.holds Tryz.pinned (OpenSpec.upto swapBestSpec)

/-- 'tonneaulaw23.SwapMoves', WHERE WHAT IT READS IS OF BULK AT MOST 1048576: true; the input reads as it did. -/
def swapMovesUptoRow : OpenClaim := { program := "ytcnfmabhghhdnaagreat", sum := "169a093098c5fd44f16790f72a7936fe1d85d7bba605d30e7a3a20ad0b9df178", func := "tonneau/tonneaulaw23.SwapMoves", spec := "swapMoves", inPlace := ["slices.overlaps[tonneau/api.Stop]"], unfollowed := true, recurses := true, apart := false, narrowed := true }
def SwapMovesUptoSaid : Prop := swapMovesUptoRow.holds Tryz.pinned (OpenSpec.upto swapMovesSpec)

/-- 'tonneaulaw23.SwapBack', WHERE WHAT IT READS IS OF BULK AT MOST 1048576: true; the input reads as it did. -/
def swapBackUptoRow : OpenClaim := { program := "ytcnfmabhghhdnaagreat", sum := "169a093098c5fd44f16790f72a7936fe1d85d7bba605d30e7a3a20ad0b9df178", func := "tonneau/tonneaulaw23.SwapBack", spec := "swapBack", inPlace := ["slices.overlaps[tonneau/api.Stop]"], unfollowed := true, recurses := true, apart := false, narrowed := true }
def SwapBackUptoSaid : Prop := swapBackUptoRow.holds Tryz.pinned (OpenSpec.upto swapBackSpec)

end Rows
end Go.Proofs.YtcnfmabhghhdnaaGreat
