/- The contracts of package clock, second part: the arrival, Pass, Last. -/
import Derived.Test.YtbbjopgneophnaaClock
namespace Go.Proofs.Ytbbjopgneophnaa
set_option linter.unusedVariables false
set_option linter.unusedSimpArgs false
open Go.RowKit
namespace Clock

set_option maxHeartbeats 800000 in
/-- clock.arrival. -/
theorem arrival_any {w : World} {v : Value} {a : Arc} (ha : IsArc w v a) (hr : a.right) (hi : Bool) (x : Int) (hx0 : 0 ≤ x) (hx1 : x ≤ 1048576) :
    Calls Try.prog 47 #[v, .int .i64 x, .bool hi] w fun e w' => e = .returned (.int .i64 (a.pass hi x)) ∧ Below w.heap.size w w' := by
  obtain ⟨A, n, c, A', n', c', rfl, k⟩ := id ha
  clear k
  have Hr := Lib.hid hr; clear hr
  obtain ⟨t0, t1⟩ := Arc.tk_bd Hr.out hi x
  have P0 := Lib.hid (pass_first (a := a) (hi := hi) hx1)
  go_enter Try.func47, Try.ntmps47
  go_wp2_with (go_at_call 37; refine (took_low (ha.alloc _) Hr.out hi x hx0 hx1).mono ?_; rintro e w1 ⟨rfl, hw⟩; obtain ⟨k1, k2, k3⟩ := bcell hw)
  go_loopw [7, 8] (fun best u wr => ∃ B U : Int, best = .int .i64 B ∧ u = .int .i64 U ∧ x ≤ B ∧ B ≤ 1049176 ∧ U % 60 = 0 ∧ x < U ∧ U ≤ 1048636 ∧
      Hid (∃ v, x ≤ v ∧ v ≤ 1048576 ∧ B = v + a.tk hi v) ∧ Hid (∀ v, x ≤ v → v < U → v ≤ 1048576 → B ≤ v + a.tk hi v) ∧
      Below (w.heap.size + 1) (w.alloc (.cells #[.int .i64 a.f, .int .i64 a.t, .slice A n c, .slice A' n' c'] 54)) wr)
    (fun _ u _ => 2000000 - (intOf u).toNat)
  case atStart => exact ⟨x + a.tk hi x, (x / 60 + 1) * 60, rfl, rfl, by omega, by omega, by omega, by omega, by omega, P0.out.1, P0.out.2, by simpa using hw⟩
  case round =>
    clear k1 k2 k3 hw
    obtain ⟨B, U, rfl, rfl, b1, b2, u0, u1, u2, h1, h2, hw⟩ := hrel
    have k := bcell (W := w.alloc (.cells #[.int .i64 a.f, .int .i64 a.t, .slice A n c, .slice A' n' c'] 54)) (w1 := wr) (by simpa using hw)
    obtain ⟨k1, k2, k3⟩ := k
    have H0 := Lib.hid u0; clear u0
    by_cases hc : U < B ∧ U ≤ 1048576
    · obtain ⟨c1, c2⟩ := hc
      obtain ⟨t2, t3⟩ := Arc.tk_bd Hr.out hi U
      go_wp2_with (go_at_call 37; refine (took_low ((ha.alloc _).below hw (by simp)) Hr.out hi U (by omega) (by omega)).mono ?_; rintro e w2 ⟨rfl, hw2⟩)
      have Ps := pass_step (a := a) (hi := hi) H0.out u1 h1.out h2.out c2
      rw [minIf] at Ps
      refine ⟨⟨_, _, rfl, rfl, by split <;> omega, by split <;> omega, by have := H0.out; omega, by omega, by omega, Ps.1, Ps.2, hw.trans (hw2.mono (by have := hw.size; simpa using this))⟩, by simp [intOf]; omega⟩
    · have P1 := Lib.hid (pass_done (a := a) Hr.out hx1 h1.out h2.out (by omega))
      by_cases c1 : U < B
      · have c2 : ¬ U ≤ 1048576 := fun g => hc ⟨c1, g⟩
        clear hc
        go_wp2_with fail
        go_ret
        exact ⟨ret_int P1.out.symm, (below1 _ _).trans (hw.mono (by simp))⟩
      · clear hc
        go_wp2_with fail
        go_ret
        exact ⟨ret_int P1.out.symm, (below1 _ _).trans (hw.mono (by simp))⟩

set_option maxHeartbeats 400000 in
/-- clock.Pass. -/
theorem pass_any {w : World} {v : Value} {a : Arc} (ha : IsArc w v a) (x : Int) (hi : Bool) :
    Calls Try.prog 34 #[v, .int .i64 x, .bool hi] w fun e w' => e = .returned (.int .i64 (a.passF hi x)) ∧ Below w.heap.size w w' := by
  obtain ⟨A, n, c, A', n', c', rfl, k⟩ := id ha
  clear k
  cases h : a.validB x
  · have He := Lib.hid (show a.passF hi x = -1 by unfold Arc.passF; simp [h])
    go_enter Try.func34, Try.ntmps34
    go_wp2_with (go_at_call 36; refine (valid_any (ha.alloc _) x).mono ?_; rintro e w' ⟨rfl, hw⟩)
    go_ret
    exact ⟨ret_int He.out.symm, behind hw⟩
  · obtain ⟨ht, hr⟩ := a.validB_true h
    have He := Lib.hid (Arc.passF_yes hi hr ht)
    obtain ⟨h0, h1⟩ := ht
    have Hr := Lib.hid hr; clear hr
    go_enter Try.func34, Try.ntmps34
    go_wp2_with (first
      | (go_at_call 36; refine (valid_any (ha.alloc _) x).mono ?_; rintro e w1 ⟨rfl, hw⟩; obtain ⟨k1, k2, k3⟩ := bcell hw)
      | (go_at_call 47; refine (arrival_any ((ha.alloc _).below hw (Nat.le_refl _)) Hr.out hi x h0 h1).mono ?_; rintro e w2 ⟨rfl, hw2⟩))
    go_ret
    exact ⟨ret_int He.out.symm, behind (hw.trans (hw2.mono hw.size))⟩

end Clock
end Go.Proofs.Ytbbjopgneophnaa
