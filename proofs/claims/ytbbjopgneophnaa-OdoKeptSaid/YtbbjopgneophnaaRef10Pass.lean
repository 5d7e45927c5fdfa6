/- The contracts of tonneauref10: Took, Pass, Last. -/
import Derived.Test.YtbbjopgneophnaaRef10
namespace Go.Proofs.Ytbbjopgneophnaa
set_option linter.unusedVariables false
set_option linter.unusedSimpArgs false
open Go.RowKit Go.BigFrame
namespace Ref10

set_option maxHeartbeats 800000 in
/-- Took. -/
theorem took_any {w : World} {v : Value} {a : Arc} (ha : IsArc w v a) (x : Int) (hi : Bool) :
    Calls Try.prog 49 #[v, .int .i64 x, .bool hi] w fun e w' => e = .returned (.int .i64 (a.tookF hi x)) ∧ Below w.heap.size w w' := by
  obtain ⟨A, n, c, A', n', c', rfl, k⟩ := id ha
  have S := Box.first ha
  have hc := S.cells
  cases hr : a.rightB
  · have He := Lib.hid (show a.tookF hi x = -1 by unfold Arc.tookF Arc.validB; rw [if_neg]; intro h; have h := of_decide_eq_true h; rw [show a.rightB = true from decide_eq_true h.2] at hr; cases hr)
    clear k
    go_enter Try.func49, Try.ntmps49
    go_wp2_with (first | (go_at_call 41; refine (right_any S.arc).mono ?_; rintro e w' ⟨rfl, hw⟩; replace S := S.next hw; replace hc := S.cells; clear hw) | (go_at_call 42; refine (time_any _ _).mono ?_; rintro e w' ⟨rfl, rfl⟩))
    go_ret
    exact ⟨ret_int He.out.symm, S.below⟩
  cases ht : timeB x
  · have He := Lib.hid (show a.tookF hi x = -1 by unfold Arc.tookF Arc.validB; rw [if_neg]; intro h; have h := of_decide_eq_true h; rw [show timeB x = true from decide_eq_true h.1] at ht; cases ht)
    clear k
    go_enter Try.func49, Try.ntmps49
    go_wp2_with (first | (go_at_call 41; refine (right_any S.arc).mono ?_; rintro e w' ⟨rfl, hw⟩; replace S := S.next hw; replace hc := S.cells; clear hw) | (go_at_call 42; refine (time_any _ _).mono ?_; rintro e w' ⟨rfl, rfl⟩))
    go_ret
    exact ⟨ret_int He.out.symm, S.below⟩
  have R : a.right := of_decide_eq_true hr
  have T : isTime x := of_decide_eq_true ht
  have He := Lib.hid (Arc.tookF_yes hi R T)
  obtain ⟨x0, x1⟩ := T
  obtain ⟨⟨hl, hm, g1⟩, ⟨hl', hm', g1'⟩⟩ := k
  obtain ⟨_, _, r3, r4, _⟩ := R
  obtain ⟨f, t, L, H⟩ := a
  simp only at hl hl' g1 g1' r3 r4 ⊢
  obtain rfl : n = 24 := by omega
  obtain rfl : n' = 24 := by omega
  obtain ⟨b, off, rfl, hb, hcc⟩ := g1.resolve_left (by omega)
  obtain ⟨b', off', rfl, hb', hcc'⟩ := g1'.resolve_left (by omega)
  have l0 := hour_lt x
  have m1 := hcc (hour x) l0
  have m2 := hcc' (hour x) l0
  clear hcc hcc' g1 g1' hl hl' r3 r4
  have j0 : (0 : Int) ≤ hour x := by omega
  have j1 : ((hour x : Nat) : Int) < 24 := by omega
  have hbs : b ≠ w.heap.size := by omega
  have hbs' : b' ≠ w.heap.size := by omega
  cases hi
  all_goals
    go_enter Try.func49, Try.ntmps49
    go_wp2_with (first
      | (go_at_call 41; refine (right_any S.arc).mono ?_; rintro e w' ⟨rfl, hw⟩; replace S := S.next hw; replace hc := S.cells; have mm1 := (S.below.cell (p := ⟨b, off + hour x, none⟩) hb).trans m1; have mm2 := (S.below.cell (p := ⟨b', off' + hour x, none⟩) hb').trans m2; clear hw)
      | (go_at_call 42; refine (time_any _ _).mono ?_; rintro e w' ⟨rfl, rfl⟩)
      | (go_at_call 51; refine (hour_any x x0 x1 _).mono ?_; rintro e w' ⟨rfl, rfl⟩))
    go_quiet ((go_at_call 51; exact Calls.quiet_of_same ((hour_any x x0 x1 _).mono fun _ _ ⟨h, k⟩ => ⟨h, k.symm⟩)))
    go_wp2
    go_ret
    exact ⟨ret_int He.out.symm, below_drewN S.below _⟩

theorem first1 (a : Arc) (hi : Bool) (x : Int) : ∀ v, x ≤ v → v < x + 1 → x + a.tk hi x ≤ v + a.tk hi v := by
  intro v v1 v2
  obtain rfl : v = x := by omega
  exact Int.le_refl _
theorem pass_step1 {a : Arc} {hi : Bool} {t u best : Int} (h1 : ∃ v, t ≤ v ∧ v ≤ 1048576 ∧ best = v + a.tk hi v) (h2 : ∀ v, t ≤ v → v < u → best ≤ v + a.tk hi v) (hu : t ≤ u) (hu' : u ≤ 1048576) :
    (∃ v, t ≤ v ∧ v ≤ 1048576 ∧ (if u + a.tk hi u < best then u + a.tk hi u else best) = v + a.tk hi v) ∧ ∀ v, t ≤ v → v < u + 1 → (if u + a.tk hi u < best then u + a.tk hi u else best) ≤ v + a.tk hi v := by
  refine ⟨?_, fun v v1 v2 => ?_⟩
  · split
    · exact ⟨u, hu, hu', rfl⟩
    · exact h1
  · by_cases c : v = u
    · subst c; split <;> omega
    · have := h2 v v1 (by omega); split <;> omega

set_option maxHeartbeats 800000 in
/-- Pass. -/
theorem pass_any {w : World} {v : Value} {a : Arc} (ha : IsArc w v a) (x : Int) (hi : Bool) :
    Calls Try.prog 44 #[v, .int .i64 x, .bool hi] w fun e w' => e = .returned (.int .i64 (a.passF hi x)) ∧ Below w.heap.size w w' := by
  obtain ⟨A, n, c, A', n', c', rfl, k⟩ := id ha
  clear k
  have S := Box.first ha
  have hc := S.cells
  cases h : a.validB x
  · have He := Lib.hid (show a.passF hi x = -1 by unfold Arc.passF; simp [h])
    have e1 : a.tookF hi x = -1 := by unfold Arc.tookF; simp [h]
    clear h
    go_enter Try.func44, Try.ntmps44
    go_wp2_with (go_at_call 49; refine (took_any S.arc _ _).mono ?_; rintro e w' ⟨rfl, hw⟩; replace S := S.next hw; replace hc := S.cells; clear hw)
    go_ret
    exact ⟨ret_int He.out.symm, S.below⟩
  · obtain ⟨ht, hr⟩ := a.validB_true h
    have He := Lib.hid (Arc.passF_yes hi hr ht)
    have e1 := Arc.tookF_yes hi hr ht
    obtain ⟨h0, h1⟩ := ht
    obtain ⟨t0, t1⟩ := a.tk_bd hr hi x
    have Hr := Lib.hid hr
    clear hr h
    go_enter Try.func44, Try.ntmps44
    go_wp2_with (go_at_call 49; refine (took_any S.arc _ _).mono ?_; rintro e w' ⟨rfl, hw⟩; replace S := S.next hw; replace hc := S.cells; clear hw)
    clear hc e1
    go_loopw [8, 9] (fun best u wr => ∃ B U : Int, best = .int .i64 B ∧ u = .int .i64 U ∧ x ≤ B ∧ B ≤ 1049176 ∧ x < U ∧ U ≤ 1048577 ∧
        Hid (∃ v, x ≤ v ∧ v ≤ 1048576 ∧ B = v + a.tk hi v) ∧ Hid (∀ v, x ≤ v → v < U → B ≤ v + a.tk hi v) ∧ Box w wr w.heap.size #[.int .i64 a.f, .int .i64 a.t, .slice A n c, .slice A' n' c'] a)
      (fun _ u _ => 2000000 - (intOf u).toNat)
    case atStart => exact ⟨_, _, rfl, rfl, by omega, by omega, by omega, by omega, ⟨x, by omega, h1, rfl⟩, first1 a hi x, S⟩
    case round =>
      clear S
      obtain ⟨B, U, rfl, rfl, b1, b2, u1, u2, h3, h4, S⟩ := hrel
      have hc := S.cells
      by_cases hk : U ≤ B ∧ U ≤ 1048576
      · obtain ⟨g1, g2⟩ := hk
        have e1 := Arc.tookF_yes hi Hr.out (t := U) ⟨by omega, g2⟩
        obtain ⟨q0, q1⟩ := a.tk_bd Hr.out hi U
        go_wp2_with (go_at_call 49; refine (took_any S.arc _ _).mono ?_; rintro e w' ⟨rfl, hw⟩; replace S := S.next hw; replace hc := S.cells; clear hw)
        go_roundw
        case rel =>
          have P := pass_step1 h3.out h4.out (by omega) g2
          exact ⟨_, _, rfl, rfl, by split <;> omega, by split <;> omega, by omega, by omega, P.1, P.2, S⟩
        case measure => simp [intOf]; omega
      · have P := Lib.hid (pass_done (a := a) Hr.out h1 h3.out (fun v v1 v2 _ => h4.out v v1 v2) (by omega))
        by_cases g1 : U ≤ B
        · have g2 : 1048576 < U := by omega
          clear hk
          go_wp2_with fail
          go_ret
          exact ⟨ret_int (by rw [He.out, P.out]), S.below⟩
        · clear hk
          go_wp2_with fail
          go_ret
          exact ⟨ret_int (by rw [He.out, P.out]), S.below⟩

end Ref10
end Go.Proofs.Ytbbjopgneophnaa
