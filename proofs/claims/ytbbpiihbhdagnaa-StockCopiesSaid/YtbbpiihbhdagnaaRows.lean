/-
  No cell of these rows narrows 'for every input' (looked for: loops, veiled, ifaces, maps, wideKeys, modest, calm, conditions, laid).
  DERIVED. THE GIVEN ROWS OF THIS SEAT. 5 by the template 'for every input the law returns true; each argument reads behind the call as it read before'; 0 by the template 'total and deterministic' (their statements: YtbbpiihbhdagnaaTotals.lean).
  GIVEN WITH THE SEED: the statements are not yours to turn. If you find one false, say at which input.
  Laid BY PROGRAM, IN A SANDBOX (cutbox-rows.mjs): the forced cells as the released guide's own fill.sh prints them over the translation 420fcf4d386c92dc… (all of the seat's roots in one cut). By AI agents, Wed Nov 11 2026. No macro, syntax, notation, axiom, sorry.
-/
import Derived.Test.YtbbpiihbhdagnaaChecked
import GoSem.Claim
import GoSem.ClaimJoined
import GoSem.ClaimMapViews
import Derived.JoinedTies
import Derived.KernelRfl
namespace Go.Proofs.Ytbbpiihbhdagnaa
/- THE CELL 'sum', in the pinned program and in every row, IS THE sha256 OF THE DUMP (.gsa) THAT YtbbpiihbhdagnaaProg.lean LOADS. Nothing in Lean hashes anything: it is a label: what it is worth is what the hold of that sum in a sandbox is worth. -/
noncomputable def Try.pinned : Pinned := { name := "ytbbpiihbhdagnaa", sum := "420fcf4d386c92dc85613221459cffdf19204f464f513e47174c1a9f775d88ae", checked := Try.checked }
namespace Rows
def none {H : Type} : Left H := { results := [], args := [] }

/-- 'tonneaulaw40.StockTells': WHATEVER THE INPUT: true; the input reads as it did. -/
def stockTellsSpec : ChangeSpec := { name := "stockTells", fn := fun _ => fun
  | [d1, d2, d3] => { results := [.lit (.bool true)], args := [d1, d2, d3] }
  | _ => none }
def stockTellsRow : OpenClaim := { program := "ytbbpiihbhdagnaa", sum := "420fcf4d386c92dc85613221459cffdf19204f464f513e47174c1a9f775d88ae", func := "tonneau/tonneaulaw40.StockTells", spec := "stockTells", inPlace := ["slices.overlaps[tonneau/api.Loan]"], unfollowed := true, recurses := true, apart := false }
def StockTellsSaid : Prop := stockTellsRow.holds Try.pinned (OpenSpec.ofChange stockTellsSpec)

/-- ITS FALSE NEIGHBOUR: 'it returns false'. Refute it at one input. -/
def stockTellsWrong : ChangeSpec := { name := "stockTells", fn := fun _ => fun
  | [d1, d2, d3] => { results := [.lit (.bool false)], args := [d1, d2, d3] }
  | _ => none }
def StockTellsWrongFalsely : Prop := stockTellsRow.holds Try.pinned (OpenSpec.ofChange stockTellsWrong)

/-- 'tonneaulaw40.StockOnce': WHATEVER THE INPUT: true; the input reads as it did. -/
def stockOnceSpec : ChangeSpec := { name := "stockOnce", fn := fun _ => fun
  | [d1, d2] => { results := [.lit (.bool true)], args := [d1, d2] }
  | _ => none }
def stockOnceRow : OpenClaim := { program := "ytbbpiihbhdagnaa", sum := "420fcf4d386c92dc85613221459cffdf19204f464f513e47174c1a9f775d88ae", func := "tonneau/tonneaulaw40.StockOnce", spec := "stockOnce", inPlace := ["slices.overlaps[tonneau/api.Loan]"], unfollowed := true, recurses := true, apart := false }
def StockOnceSaid : Prop := stockOnceRow.holds Try.pinned (OpenSpec.ofChange stockOnceSpec)

/-- ITS FALSE NEIGHBOUR: 'it returns false'. Refute it at one input. -/
def stockOnceWrong : ChangeSpec := { name := "stockOnce", fn := fun _ => fun
  | [d1, d2] => { results := [.lit (.bool false)], args := [d1, d2] }
  | _ => none }
def StockOnceWrongFalsely : Prop := stockOnceRow.holds Try.pinned (OpenSpec.ofChange stockOnceWrong)

/-- 'tonneaulaw40.StockAny': WHATEVER THE INPUT: true; the input reads as it did. -/
def stockAnySpec : ChangeSpec := { name := "stockAny", fn := fun _ => fun
  | [d1, d2, d3, d4, d5] => { results := [.lit (.bool true)], args := [d1, d2, d3, d4, d5] }
  | _ => none }
def stockAnyRow : OpenClaim := { program := "ytbbpiihbhdagnaa", sum := "420fcf4d386c92dc85613221459cffdf19204f464f513e47174c1a9f775d88ae", func := "tonneau/tonneaulaw40.StockAny", spec := "stockAny", inPlace := ["slices.overlaps[tonneau/api.Loan]"], unfollowed := true, recurses := true, apart := false }
def StockAnySaid : Prop := stockAnyRow.holds Try.pinned (OpenSpec.ofChange stockAnySpec)

/-- ITS FALSE NEIGHBOUR: 'it returns false'. Refute it at one input. -/
def stockAnyWrong : ChangeSpec := { name := "stockAny", fn := fun _ => fun
  | [d1, d2, d3, d4, d5] => { results := [.lit (.bool false)], args := [d1, d2, d3, d4, d5] }
  | _ => none }
def StockAnyWrongFalsely : Prop := stockAnyRow.holds Try.pinned (OpenSpec.ofChange stockAnyWrong)

/-- 'tonneaulaw40.StockSum': WHATEVER THE INPUT: true; the input reads as it did. -/
def stockSumSpec : ChangeSpec := { name := "stockSum", fn := fun _ => fun
  | [d1, d2] => { results := [.lit (.bool true)], args := [d1, d2] }
  | _ => none }
def stockSumRow : OpenClaim := { program := "ytbbpiihbhdagnaa", sum := "420fcf4d386c92dc85613221459cffdf19204f464f513e47174c1a9f775d88ae", func := "tonneau/tonneaulaw40.StockSum", spec := "stockSum", inPlace := ["slices.overlaps[tonneau/api.Loan]"], unfollowed := true, recurses := true, apart := false }
def StockSumSaid : Prop := stockSumRow.holds Try.pinned (OpenSpec.ofChange stockSumSpec)

/-- ITS FALSE NEIGHBOUR: 'it returns false'. Refute it at one input. -/
def stockSumWrong : ChangeSpec := { name := "stockSum", fn := fun _ => fun
  | [d1, d2] => { results := [.lit (.bool false)], args := [d1, d2] }
  | _ => none }
def StockSumWrongFalsely : Prop := stockSumRow.holds Try.pinned (OpenSpec.ofChange stockSumWrong)

/-- 'tonneaulaw40.StockCopies': WHATEVER THE INPUT: true; the input reads as it did. -/
def stockCopiesSpec : ChangeSpec := { name := "stockCopies", fn := fun _ => fun
  | [d1, d2] => { results := [.lit (.bool true)], args := [d1, d2] }
  | _ => none }
def stockCopiesRow : OpenClaim := { program := "ytbbpiihbhdagnaa", sum := "420fcf4d386c92dc85613221459cffdf19204f464f513e47174c1a9f775d88ae", func := "tonneau/tonneaulaw40.StockCopies", spec := "stockCopies", inPlace := ["slices.overlaps[tonneau/api.Loan]"], unfollowed := true, recurses := true, apart := false }
def StockCopiesSaid : Prop := stockCopiesRow.holds Try.pinned (OpenSpec.ofChange stockCopiesSpec)

/-- ITS FALSE NEIGHBOUR: 'it returns false'. Refute it at one input. -/
def stockCopiesWrong : ChangeSpec := { name := "stockCopies", fn := fun _ => fun
  | [d1, d2] => { results := [.lit (.bool false)], args := [d1, d2] }
  | _ => none }
def StockCopiesWrongFalsely : Prop := stockCopiesRow.holds Try.pinned (OpenSpec.ofChange stockCopiesWrong)

/- THE SECOND FORM. 'bulk': how many values and letters a reading holds, each counted each time it is reached (what is shared counts as often as it is met; a slice's spare places count too). A statement '..UptoSaid' is the law's where the arguments, and the package variables that the reading takes, are together of bulk at most 1048576: NARROWER than '..Said'. Prove '..Said' where nothing that the law and all that it calls make is longer than what came in: it says more and counts as full. Else prove '..UptoSaid'. A law counts once. -/
mutual
def uptoBulk {H : Type} : DataW H → Nat
  | .lit (.string bytes) => bytes.length + 1
  | .lit _ => 1
  | .nil => 1
  | .ptr d => uptoBulk d + 1
  | .slice elems spare => uptoBulkAll elems + uptoBulkAll spare + 1
  | .agg parts => uptoBulkAll parts + 1
  | .iface _ d => uptoBulk d + 1
  | .map entries => uptoBulkEntries entries + 1
  | .held _ => 1
def uptoBulkAll {H : Type} : List (DataW H) → Nat
  | [] => 0
  | d :: r => uptoBulk d + uptoBulkAll r
def uptoBulkEntries {H : Type} : List (Lit × DataW H) → Nat
  | [] => 0
  | x :: r => uptoBulkEntry x + uptoBulkEntries r
def uptoBulkEntry {H : Type} : Lit × DataW H → Nat
  | (.string bytes, d) => bytes.length + uptoBulk d + 1
  | (_, d) => uptoBulk d + 1
 end
def uptoSmall : (H : Type) → List (DataW H) → Bool := fun _ ds => decide (uptoBulkAll ds ≤ 1048576)
def OpenSpec.upto (s : _root_.Go.ChangeSpec) : _root_.Go.OpenSpec := { _root_.Go.OpenSpec.ofChange s with cond := some uptoSmall }

/-- 'tonneaulaw40.StockTells', WHERE WHAT IT READS IS OF BULK AT MOST 1048576: true; the input reads as it did. -/
def stockTellsUptoRow : OpenClaim := { program := "ytbbpiihbhdagnaa", sum := "420fcf4d386c92dc85613221459cffdf19204f464f513e47174c1a9f775d88ae", func := "tonneau/tonneaulaw40.StockTells", spec := "stockTells", inPlace := ["slices.overlaps[tonneau/api.Loan]"], unfollowed := true, recurses := true, apart := false, narrowed := true }
def StockTellsUptoSaid : Prop := stockTellsUptoRow.holds Try.pinned (OpenSpec.upto stockTellsSpec)

/-- 'tonneaulaw40.StockOnce', WHERE WHAT IT READS IS OF BULK AT MOST 1048576: true; the input reads as it did. -/
def stockOnceUptoRow : OpenClaim := { program := "ytbbpiihbhdagnaa", sum := "420fcf4d386c92dc85613221459cffdf19204f464f513e47174c1a9f775d88ae", func := "tonneau/tonneaulaw40.StockOnce", spec := "stockOnce", inPlace := ["slices.overlaps[tonneau/api.Loan]"], unfollowed := true, recurses := true, apart := false, narrowed := true }
def StockOnceUptoSaid : Prop := stockOnceUptoRow.holds Try.pinned (OpenSpec.upto stockOnceSpec)

/-- 'tonneaulaw40.StockAny', WHERE WHAT IT READS IS OF BULK AT MOST 1048576: true; the input reads as it did. -/
def stockAnyUptoRow : OpenClaim := { program := "ytbbpiihbhdagnaa", sum := "420fcf4d386c92dc85613221459cffdf19204f464f513e47174c1a9f775d88ae", func := "tonneau/tonneaulaw40.StockAny", spec := "stockAny", inPlace := ["slices.overlaps[tonneau/api.Loan]"], unfollowed := true, recurses := true, apart := false, narrowed := true }
def StockAnyUptoSaid : Prop := stockAnyUptoRow.holds Try.pinned (OpenSpec.upto stockAnySpec)

/-- 'tonneaulaw40.StockSum', WHERE WHAT IT READS IS OF BULK AT MOST 1048576: true; the input reads as it did. -/
def stockSumUptoRow : OpenClaim := { program := "ytbbpiihbhdagnaa", sum := "420fcf4d386c92dc85613221459cffdf19204f464f513e47174c1a9f775d88ae", func := "tonneau/tonneaulaw40.StockSum", spec := "stockSum", inPlace := ["slices.overlaps[tonneau/api.Loan]"], unfollowed := true, recurses := true, apart := false, narrowed := true }
def StockSumUptoSaid : Prop := stockSumUptoRow.holds Try.pinned (OpenSpec.upto stockSumSpec)

/-- 'tonneaulaw40.StockCopies', WHERE WHAT IT READS IS OF BULK AT MOST 1048576: true; the input reads as it did. -/
def stockCopiesUptoRow : OpenClaim := { program := "ytbbpiihbhdagnaa", sum := "420fcf4d386c92dc85613221459cffdf19204f464f513e47174c1a9f775d88ae", func := "tonneau/tonneaulaw40.StockCopies", spec := "stockCopies", inPlace := ["slices.overlaps[tonneau/api.Loan]"], unfollowed := true, recurses := true, apart := false, narrowed := true }
def StockCopiesUptoSaid : Prop := stockCopiesUptoRow.holds Try.pinned (OpenSpec.upto stockCopiesSpec)

end Rows
end Go.Proofs.Ytbbpiihbhdagnaa
