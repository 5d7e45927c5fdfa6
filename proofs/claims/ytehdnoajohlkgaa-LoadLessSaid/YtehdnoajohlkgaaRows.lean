/-
  No cell of these rows narrows 'for every input' (looked for: loops, veiled, ifaces, maps, wideKeys, modest, calm, conditions, laid).
  DERIVED. THE GIVEN ROWS OF THIS SEAT. 5 by the template 'for every input the law returns true; each argument reads behind the call as it read before'; 0 by the template 'total and deterministic' (their statements: YtehdnoajohlkgaaTotals.lean).
  GIVEN WITH THE SEED: the statements are not yours to turn. If you find one false, say at which input.
  Laid BY PROGRAM, IN A SANDBOX (cutbox-rows.mjs): the forced cells as the released guide's own fill.sh prints them over the translation 3eaaf50413a12324… (all of the seat's roots in one cut). By AI agents, Wed Nov 11 2026. No macro, syntax, notation, axiom, sorry.
-/
import Derived.Test.YtehdnoajohlkgaaChecked
import GoSem.Claim
import GoSem.ClaimJoined
import GoSem.ClaimMapViews
import Derived.JoinedTies
import Derived.KernelRfl
namespace Go.Proofs.Ytehdnoajohlkgaa
/- THE CELL 'sum', in the pinned program and in every row, IS THE sha256 OF THE DUMP (.gsa) THAT YtehdnoajohlkgaaProg.lean LOADS. Nothing in Lean hashes anything: it is a label: what it is worth is what the hold of that sum in a sandbox is worth. -/
noncomputable def Try.pinned : Pinned := { name := "ytehdnoajohlkgaa", sum := "3eaaf50413a1232487292f82a2c8a1b081b2df334b59617e9a9b3d763cbde015", checked := Try.checked }
namespace Rows
def none {H : Type} : Left H := { results := [], args := [] }

/-- 'tonneaulaw17.LoadTells': WHATEVER THE INPUT: true; the input reads as it did. -/
def loadTellsSpec : ChangeSpec := { name := "loadTells", fn := fun _ => fun
  | [d1, d2, d3, d4] => { results := [.lit (.bool true)], args := [d1, d2, d3, d4] }
  | _ => none }
def loadTellsRow : OpenClaim := { program := "ytehdnoajohlkgaa", sum := "3eaaf50413a1232487292f82a2c8a1b081b2df334b59617e9a9b3d763cbde015", func := "tonneau/tonneaulaw17.LoadTells", spec := "loadTells", unfollowed := true, recurses := true, apart := false }
def LoadTellsSaid : Prop := loadTellsRow.holds Try.pinned (OpenSpec.ofChange loadTellsSpec)

/-- ITS FALSE NEIGHBOUR: 'it returns false'. Refute it at one input. -/
def loadTellsWrong : ChangeSpec := { name := "loadTells", fn := fun _ => fun
  | [d1, d2, d3, d4] => { results := [.lit (.bool false)], args := [d1, d2, d3, d4] }
  | _ => none }
def LoadTellsWrongFalsely : Prop := loadTellsRow.holds Try.pinned (OpenSpec.ofChange loadTellsWrong)

/-- 'tonneaulaw17.LoadSteps': WHATEVER THE INPUT: true; the input reads as it did. -/
def loadStepsSpec : ChangeSpec := { name := "loadSteps", fn := fun _ => fun
  | [d1, d2] => { results := [.lit (.bool true)], args := [d1, d2] }
  | _ => none }
def loadStepsRow : OpenClaim := { program := "ytehdnoajohlkgaa", sum := "3eaaf50413a1232487292f82a2c8a1b081b2df334b59617e9a9b3d763cbde015", func := "tonneau/tonneaulaw17.LoadSteps", spec := "loadSteps", unfollowed := true, recurses := true, apart := false }
def LoadStepsSaid : Prop := loadStepsRow.holds Try.pinned (OpenSpec.ofChange loadStepsSpec)

/-- ITS FALSE NEIGHBOUR: 'it returns false'. Refute it at one input. -/
def loadStepsWrong : ChangeSpec := { name := "loadSteps", fn := fun _ => fun
  | [d1, d2] => { results := [.lit (.bool false)], args := [d1, d2] }
  | _ => none }
def LoadStepsWrongFalsely : Prop := loadStepsRow.holds Try.pinned (OpenSpec.ofChange loadStepsWrong)

/-- 'tonneaulaw17.LoadMore': WHATEVER THE INPUT: true; the input reads as it did. -/
def loadMoreSpec : ChangeSpec := { name := "loadMore", fn := fun _ => fun
  | [d1, d2, d3, d4, d5, d6] => { results := [.lit (.bool true)], args := [d1, d2, d3, d4, d5, d6] }
  | _ => none }
def loadMoreRow : OpenClaim := { program := "ytehdnoajohlkgaa", sum := "3eaaf50413a1232487292f82a2c8a1b081b2df334b59617e9a9b3d763cbde015", func := "tonneau/tonneaulaw17.LoadMore", spec := "loadMore", unfollowed := true, recurses := true, apart := false }
def LoadMoreSaid : Prop := loadMoreRow.holds Try.pinned (OpenSpec.ofChange loadMoreSpec)

/-- ITS FALSE NEIGHBOUR: 'it returns false'. Refute it at one input. -/
def loadMoreWrong : ChangeSpec := { name := "loadMore", fn := fun _ => fun
  | [d1, d2, d3, d4, d5, d6] => { results := [.lit (.bool false)], args := [d1, d2, d3, d4, d5, d6] }
  | _ => none }
def LoadMoreWrongFalsely : Prop := loadMoreRow.holds Try.pinned (OpenSpec.ofChange loadMoreWrong)

/-- 'tonneaulaw17.LoadPairs': WHATEVER THE INPUT: true; the input reads as it did. -/
def loadPairsSpec : ChangeSpec := { name := "loadPairs", fn := fun _ => fun
  | [d1, d2, d3] => { results := [.lit (.bool true)], args := [d1, d2, d3] }
  | _ => none }
def loadPairsRow : OpenClaim := { program := "ytehdnoajohlkgaa", sum := "3eaaf50413a1232487292f82a2c8a1b081b2df334b59617e9a9b3d763cbde015", func := "tonneau/tonneaulaw17.LoadPairs", spec := "loadPairs", unfollowed := true, recurses := true, apart := false }
def LoadPairsSaid : Prop := loadPairsRow.holds Try.pinned (OpenSpec.ofChange loadPairsSpec)

/-- ITS FALSE NEIGHBOUR: 'it returns false'. Refute it at one input. -/
def loadPairsWrong : ChangeSpec := { name := "loadPairs", fn := fun _ => fun
  | [d1, d2, d3] => { results := [.lit (.bool false)], args := [d1, d2, d3] }
  | _ => none }
def LoadPairsWrongFalsely : Prop := loadPairsRow.holds Try.pinned (OpenSpec.ofChange loadPairsWrong)

/-- 'tonneaulaw17.LoadLess': WHATEVER THE INPUT: true; the input reads as it did. -/
def loadLessSpec : ChangeSpec := { name := "loadLess", fn := fun _ => fun
  | [d1, d2, d3, d4] => { results := [.lit (.bool true)], args := [d1, d2, d3, d4] }
  | _ => none }
def loadLessRow : OpenClaim := { program := "ytehdnoajohlkgaa", sum := "3eaaf50413a1232487292f82a2c8a1b081b2df334b59617e9a9b3d763cbde015", func := "tonneau/tonneaulaw17.LoadLess", spec := "loadLess", unfollowed := true, recurses := true, apart := false }
def LoadLessSaid : Prop := loadLessRow.holds Try.pinned (OpenSpec.ofChange loadLessSpec)

/-- ITS FALSE NEIGHBOUR: 'it returns false'. Refute it at one input. -/
def loadLessWrong : ChangeSpec := { name := "loadLess", fn := fun _ => fun
  | [d1, d2, d3, d4] => { results := [.lit (.bool false)], args := [d1, d2, d3, d4] }
  | _ => none }
def LoadLessWrongFalsely : Prop := loadLessRow.holds Try.pinned (OpenSpec.ofChange loadLessWrong)

/- THE SECOND FORM. 'bulk': how many values and letters a reading holds, each counted each time it is reached (what is shared counts as often as it is met; a slice's spare places count too). A statement '..UptoSaid' is the law's where the arguments, and the package variables that the reading takes, are together of bulk at most 1048576: NARROWER than '..Said'. Prove '..Said' where nothing that the law and all that it calls make is longer than what came in: it says more and counts as full. Else prove '..UptoSaid'. A law counts once. -/
mutual
def uptoBulk {H : Type} : DataW H → Nat
  | .lit (.string bytes) => bytes.length + 1
  | .lit _ => 1
  | .nil => 1
  | .ptr d => uptoBulk d + 1
  | .slice elems spare => uptoBulkAll elems + uptoBulkAll spare + 1
  | .agg parts => uptoBulkAll parts + 1
  | .iface _ d => uptoBulk d + 1
  | .map entries => uptoBulkEntries entries + 1
  | .held _ => 1
def uptoBulkAll {H : Type} : List (DataW H) → Nat
  | [] => 0
  | d :: r => uptoBulk d + uptoBulkAll r
def uptoBulkEntries {H : Type} : List (Lit × DataW H) → Nat
  | [] => 0
  | x :: r => uptoBulkEntry x + uptoBulkEntries r
def uptoBulkEntry {H : Type} : Lit × DataW H → Nat
  | (.string bytes, d) => bytes.length + uptoBulk d + 1
  | (_, d) => uptoBulk d + 1
 end
def uptoSmall : (H : Type) → List (DataW H) → Bool := fun _ ds => decide (uptoBulkAll ds ≤ 1048576)
def OpenSpec.upto (s : _root_.Go.ChangeSpec) : _root_.Go.OpenSpec := { _root_.Go.OpenSpec.ofChange s with cond := some uptoSmall }

/-- 'tonneaulaw17.LoadTells', WHERE WHAT IT READS IS OF BULK AT MOST 1048576: true; the input reads as it did. -/
def loadTellsUptoRow : OpenClaim := { program := "ytehdnoajohlkgaa", sum := "3eaaf50413a1232487292f82a2c8a1b081b2df334b59617e9a9b3d763cbde015", func := "tonneau/tonneaulaw17.LoadTells", spec := "loadTells", unfollowed := true, recurses := true, apart := false, narrowed := true }
def LoadTellsUptoSaid : Prop := loadTellsUptoRow.holds Try.pinned (OpenSpec.upto loadTellsSpec)

/-- 'tonneaulaw17.LoadSteps', WHERE WHAT IT READS IS OF BULK AT MOST 1048576: true; the input reads as it did. -/
def loadStepsUptoRow : OpenClaim := { program := "ytehdnoajohlkgaa", sum := "3eaaf50413a1232487292f82a2c8a1b081b2df334b59617e9a9b3d763cbde015", func := "tonneau/tonneaulaw17.LoadSteps", spec := "loadSteps", unfollowed := true, recurses := true, apart := false, narrowed := true }
def LoadStepsUptoSaid : Prop := loadStepsUptoRow.holds Try.pinned (OpenSpec.upto loadStepsSpec)

/-- 'tonneaulaw17.LoadMore', WHERE WHAT IT READS IS OF BULK AT MOST 1048576: true; the input reads as it did. -/
def loadMoreUptoRow : OpenClaim := { program := "ytehdnoajohlkgaa", sum := "3eaaf50413a1232487292f82a2c8a1b081b2df334b59617e9a9b3d763cbde015", func := "tonneau/tonneaulaw17.LoadMore", spec := "loadMore", unfollowed := true, recurses := true, apart := false, narrowed := true }
def LoadMoreUptoSaid : Prop := loadMoreUptoRow.holds Try.pinned (OpenSpec.upto loadMoreSpec)

/-- 'tonneaulaw17.LoadPairs', WHERE WHAT IT READS IS OF BULK AT MOST 1048576: true; the input reads as it did. -/
def loadPairsUptoRow : OpenClaim := { program := "ytehdnoajohlkgaa", sum := "3eaaf50413a1232487292f82a2c8a1b081b2df334b59617e9a9b3d763cbde015", func := "tonneau/tonneaulaw17.LoadPairs", spec := "loadPairs", unfollowed := true, recurses := true, apart := false, narrowed := true }
def LoadPairsUptoSaid : Prop := loadPairsUptoRow.holds Try.pinned (OpenSpec.upto loadPairsSpec)

/-- 'tonneaulaw17.LoadLess', WHERE WHAT IT READS IS OF BULK AT MOST 1048576: true; the input reads as it did. -/
def loadLessUptoRow : OpenClaim := { program := "ytehdnoajohlkgaa", sum := "3eaaf50413a1232487292f82a2c8a1b081b2df334b59617e9a9b3d763cbde015", func := "tonneau/tonneaulaw17.LoadLess", spec := "loadLess", unfollowed := true, recurses := true, apart := false, narrowed := true }
def LoadLessUptoSaid : Prop := loadLessUptoRow.holds Try.pinned (OpenSpec.upto loadLessSpec)

end Rows
end Go.Proofs.Ytehdnoajohlkgaa
