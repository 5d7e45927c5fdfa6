/- The contract of clock.Took. -/
import Derived.Test.YtbbjopgneophnaaClock
namespace Go.Proofs.Ytbbjopgneophnaa
set_option linter.unusedVariables false
set_option linter.unusedSimpArgs false
open Go.RowKit
namespace Clock
set_option maxHeartbeats 400000 in
/-- clock.Took. -/
theorem took_any {w : World} {v : Value} {a : Arc} (ha : IsArc w v a) (x : Int) (hi : Bool) :
    Calls Try.prog 23 #[v, .int .i64 x, .bool hi] w fun e w' => e = .returned (.int .i64 (a.tookF hi x)) ∧ Below w.heap.size w w' := by
  obtain ⟨A, n, c, A', n', c', rfl, k⟩ := id ha
  clear k
  cases h : a.validB x
  · have He := Lib.hid (show a.tookF hi x = -1 by unfold Arc.tookF; simp [h])
    go_enter Try.func23, Try.ntmps23
    go_wp2_with (go_at_call 36; refine (valid_any (ha.alloc _) x).mono ?_; rintro e w' ⟨rfl, hw⟩)
    go_ret
    exact ⟨ret_int He.out.symm, behind hw⟩
  · obtain ⟨ht, hr⟩ := a.validB_true h
    have He := Lib.hid (Arc.tookF_yes hi hr ht)
    obtain ⟨h0, h1⟩ := ht
    have Hr := Lib.hid hr; clear hr
    go_enter Try.func23, Try.ntmps23
    go_wp2_with (first
      | (go_at_call 36; refine (valid_any (ha.alloc _) x).mono ?_; rintro e w1 ⟨rfl, hw⟩; obtain ⟨k1, k2, k3⟩ := bcell hw)
      | (go_at_call 37; refine (took_low ((ha.alloc _).below hw (Nat.le_refl _)) Hr.out hi x h0 h1).mono ?_; rintro e w2 ⟨rfl, hw2⟩))
    go_ret
    exact ⟨ret_int He.out.symm, behind (hw.trans (hw2.mono hw.size))⟩
end Clock
end Go.Proofs.Ytbbjopgneophnaa
