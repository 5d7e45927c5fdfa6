/- ClockHours: the walk. -/
import Derived.Test.YtjdjadnmlbmjdaaSmall10
import Derived.BigQuiet
namespace Go.Proofs.Ytjdjadnmlbmjdaa
open Go.RowKit Go.BigFrame
namespace Hours

/-- tonneauref10.Few. -/
theorem few_any {w : World} {v : Value} {a : Arc} (ha : IsArc w v a) :
    Calls Try.prog 9 #[v] w fun e w' => e = .returned (.bool a.few) ∧ Below w.heap.size w w' := by
  obtain ⟨A, n, c, A', n', c', rfl, ⟨hl, hm, _⟩, ⟨hl', hm', _⟩⟩ := ha
  obtain ⟨f, t, L, H⟩ := a
  have He := Lib.hid (show (⟨f, t, L, H⟩ : Arc).few = (decide ((n : Int) ≤ 40) && decide ((n' : Int) ≤ 40)) by
    unfold Arc.few; simp only [hl, hl']; congr 1 <;> simp <;> omega)
  clear hl hl'
  by_cases h : (n : Int) ≤ 40
  all_goals
    go_enter Try.func9, Try.ntmps9
    go_wp2
    go_ret
    exact ⟨ret_bool (by rw [He.out]; first | (simp [h]; done) | (simp; omega)), below1 _ _⟩

set_option maxRecDepth 100000 in
set_option maxHeartbeats 1600000 in
theorem hours_walk {w : World} {v : Value} {a : Arc} (ha : IsArc w v a) (t : Int) (hi : Bool) :
    Calls Try.prog 7 #[v, .int .i64 t, .bool hi] w fun e w' => e = .returned (.bool true) ∧ Below w.heap.size w w' := by
  obtain ⟨A, n, c, A', n', c', rfl, k⟩ := id ha
  clear k
  have S := Box.first ha
  have hc := S.cells
  cases hf : a.few
  · go_enter Try.func7, Try.ntmps7
    go_wp2_with (first
      | (go_at_call 8; refine (Busy.small_any _).mono ?_; rintro e w' ⟨rfl, hw⟩; replace S := S.next hw; replace hc := S.cells; clear hw)
      | (go_at_call 9; refine (few_any S.arc).mono ?_; rintro e w' ⟨rfl, hw⟩; replace S := S.next hw; replace hc := S.cells; clear hw))
    go_ret
    exact ⟨rfl, S.below⟩
  cases hr : a.rightB
  · go_enter Try.func7, Try.ntmps7
    go_wp2_with (first
      | (go_at_call 8; refine (Busy.small_any _).mono ?_; rintro e w' ⟨rfl, hw⟩; replace S := S.next hw; replace hc := S.cells; clear hw)
      | (go_at_call 9; refine (few_any S.arc).mono ?_; rintro e w' ⟨rfl, hw⟩; replace S := S.next hw; replace hc := S.cells; clear hw)
      | (go_at_call 10; refine (Clock.right_any S.arc).mono ?_; rintro e w' ⟨rfl, hw⟩; replace S := S.next hw; replace hc := S.cells; clear hw))
    go_ret
    exact ⟨rfl, S.below⟩
  have Hr := Lib.hid (show a.right from of_decide_eq_true hr)
  by_cases h : t < 0 ∨ 1048576 < t
  · rcases h with h | h
    all_goals
      go_enter Try.func7, Try.ntmps7
      go_wp2_with (first
        | (go_at_call 8; refine (Busy.small_any _).mono ?_; rintro e w' ⟨rfl, hw⟩; replace S := S.next hw; replace hc := S.cells; clear hw)
        | (go_at_call 9; refine (few_any S.arc).mono ?_; rintro e w' ⟨rfl, hw⟩; replace S := S.next hw; replace hc := S.cells; clear hw)
        | (go_at_call 10; refine (Clock.right_any S.arc).mono ?_; rintro e w' ⟨rfl, hw⟩; replace S := S.next hw; replace hc := S.cells; clear hw))
      go_ret
      exact ⟨rfl, S.below⟩
  · have h0 : 0 ≤ t := by omega
    have h1 : t ≤ 1048576 := by omega
    clear h
    have hv := Arc.validB_mk Hr.out h0 h1
    obtain ⟨t0, t1⟩ := Arc.tk_bd Hr.out hi t
    have P0 := Lib.hid (pass_first (a := a) (hi := hi) h1)
    have e0 := Arc.tookF_yes hi Hr.out ⟨h0, h1⟩
    go_enter Try.func7, Try.ntmps7
    go_wp2_with (first
      | (go_at_call 8; refine (Busy.small_any _).mono ?_; rintro e w' ⟨rfl, hw⟩; replace S := S.next hw; replace hc := S.cells; clear hw)
      | (go_at_call 9; refine (few_any S.arc).mono ?_; rintro e w' ⟨rfl, hw⟩; replace S := S.next hw; replace hc := S.cells; clear hw)
      | (go_at_call 10; refine (Clock.right_any S.arc).mono ?_; rintro e w' ⟨rfl, hw⟩; replace S := S.next hw; replace hc := S.cells; clear hw)
      | (go_at_call 12; refine (Clock.took_any S.arc _ _).mono ?_; rintro e w' ⟨rfl, hw⟩; replace S := S.next hw; replace hc := S.cells; clear hw))
    clear hc hf hr hv e0
    go_loopw [8, 9] (fun best i wr => ∃ (b : Int) (k : Nat), best = .int .i64 b ∧ i = .int .i64 k ∧ 1 ≤ k ∧ k ≤ 11 ∧ t ≤ b ∧ b ≤ t + 600 ∧
        Hid (∃ v, t ≤ v ∧ v ≤ 1048576 ∧ b = v + a.tk hi v) ∧ Hid (∀ v, t ≤ v → v < (t / 60 + k) * 60 → v ≤ 1048576 → b ≤ v + a.tk hi v) ∧ 
        Box w wr w.heap.size #[.int .i64 a.f, .int .i64 a.t, .slice A n c, .slice A' n' c'] a)
      (fun _ i _ => 11 - (intOf i).toNat)
    case atStart => exact ⟨_, 1, rfl, rfl, by omega, by omega, by omega, by omega, P0.out.1, P0.out.2, S⟩
    case round =>
      clear S
      obtain ⟨b, k, rfl, rfl, k1, k2, b1, b2, H1, H2, S⟩ := hrel
      have hc := S.cells
      by_cases hk : k ≤ 10
      · have Hs := Lib.hid (hours_step (a := a) (k := k) (hi := hi) k1 H1.out H2.out)
        by_cases hu : (t / 60 + k) * 60 ≤ 1048576
        · have e1 := Arc.tookF_yes hi Hr.out (t := (t / 60 + k) * 60) ⟨by omega, hu⟩
          obtain ⟨q0, q1⟩ := Arc.tk_bd Hr.out hi ((t / 60 + k) * 60)
          go_wp2_with (go_at_call 12; refine (Clock.took_any S.arc _ _).mono ?_; rintro e w' ⟨rfl, hw⟩; replace S := S.next hw; replace hc := S.cells; clear hw)
          go_roundw
          case rel =>
            have Hs := Hs.out
            simp only [hu, if_true] at Hs
            exact ⟨_, k + 1, rfl, by go_num, by omega, by omega, by split <;> omega, by split <;> omega, Hs.1, Hs.2, S⟩
          case measure => simp [intOf]; omega
        · go_wp2_with fail
          go_roundw
          case rel =>
            have Hs := Hs.out
            simp only [hu, if_false] at Hs
            exact ⟨_, k + 1, rfl, by go_num, by omega, by omega, by omega, by omega, Hs.1, Hs.2, S⟩
          case measure => simp [intOf]; omega
      · obtain rfl : k = 11 := by omega
        have e1 := Arc.passF_yes hi Hr.out ⟨h0, h1⟩
        have e2 := pass_done Hr.out h1 H1.out H2.out (by omega)
        rw [e2] at e1
        by_cases ht : t ≤ 1045696
        · have e3 := Lib.hid (pass_day Hr.out hi ht)
          go_wp2_with (go_at_call 14; refine (Clock.pass_any S.arc _ _).mono ?_; rintro e w' ⟨rfl, hw⟩; replace S := S.next hw; replace hc := S.cells; clear hw)
          have e4 : (a.passF hi (t + 1440) == b + 1440) = true := by rw [Arc.passF_yes hi Hr.out ⟨by omega, by omega⟩, e3.out, e2]; simp
          have e5 : (a.tookF hi (t + 1440) == a.tookF hi t) = true := by rw [Arc.tookF_yes hi Hr.out ⟨by omega, by omega⟩, Arc.tookF_yes hi Hr.out ⟨h0, h1⟩, Arc.tk_day]; simp
          refine wp_region_class (InBox w w.heap.size #[.int .i64 a.f, .int .i64 a.t, .slice A n c, .slice A' n' c'] a) (by kernel_rfl) (by kernel_rfl) (Box.drew S) ?_
          repeat (go_big_quiet_step (first
            | (intro S1; go_at_call 14; exact (Clock.pass_any (Box.arc S1) _ _).mono fun e w2 ⟨h, hb⟩ => ⟨h, Box.next S1 hb⟩)
            | (intro S1; go_at_call 12; exact (Clock.took_any (Box.arc S1) _ _).mono fun e w2 ⟨h, hb⟩ => ⟨h, Box.next S1 hb⟩)
            | (intro S1; have hc1 := Box.cells S1; go_simp; rfl)))
          refine wpQuiet_nil ?_
          intro w5 S5
          go_wp2
          go_ret
          exact ⟨rfl, Box.below S5⟩
        · go_wp2_with (go_at_call 14; refine (Clock.pass_any S.arc _ _).mono ?_; rintro e w' ⟨rfl, hw⟩; replace S := S.next hw; replace hc := S.cells; clear hw)
          go_ret
          exact ⟨rfl, S.below⟩
theorem hours_law {w : World} {v : Value} {a : Arc} (ha : IsArc w v a) (t : Int) (_ : (Lit.int .i64 t).wf = true) (hi : Bool) :
    Calls Try.prog 7 #[v, .int .i64 t, .bool hi] w fun e w' => e = .returned (.bool true) ∧ Below w.heap.size w w' := hours_walk ha t hi
end Hours
end Go.Proofs.Ytjdjadnmlbmjdaa
