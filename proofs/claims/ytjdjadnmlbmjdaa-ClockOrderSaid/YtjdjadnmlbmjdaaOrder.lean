/- ClockOrder and ClockLast: the walks. -/
import Derived.Test.YtjdjadnmlbmjdaaHours
import Derived.OpenShut
namespace Go.Proofs.Ytjdjadnmlbmjdaa
open Go.RowKit Go.BigFrame
namespace Order

set_option maxRecDepth 100000 in
set_option maxHeartbeats 1600000 in
theorem order_law {w : World} {v : Value} {a : Arc} (ha : IsArc w v a) (t : Int) (_ : (Lit.int .i64 t).wf = true) (x : Int) (hx : (Lit.int .u16 x).wf = true) (hi : Bool) :
    Calls Try.prog 4 #[v, .int .i64 t, .int .u16 x, .bool hi] w fun e w' => e = .returned (.bool true) ∧ Below w.heap.size w w' := by
  obtain ⟨A, n, c, A', n', c', rfl, k⟩ := id ha
  clear k
  obtain ⟨x0, x1⟩ := bounds_u16 hx
  clear hx
  have S := Box.first ha
  have hc := S.cells
  cases hf : a.few
  · go_enter Try.func4, Try.ntmps4
    go_wp2_with (first | (go_at_call 8; refine (Busy.small_any _).mono ?_; rintro e w' ⟨rfl, hw⟩; replace S := S.next hw; replace hc := S.cells; clear hw) | (go_at_call 9; refine (Hours.few_any S.arc).mono ?_; rintro e w' ⟨rfl, hw⟩; replace S := S.next hw; replace hc := S.cells; clear hw))
    go_ret
    exact ⟨rfl, S.below⟩
  cases hr : a.rightB
  · go_enter Try.func4, Try.ntmps4
    go_wp2_with (first | (go_at_call 8; refine (Busy.small_any _).mono ?_; rintro e w' ⟨rfl, hw⟩; replace S := S.next hw; replace hc := S.cells; clear hw) | (go_at_call 9; refine (Hours.few_any S.arc).mono ?_; rintro e w' ⟨rfl, hw⟩; replace S := S.next hw; replace hc := S.cells; clear hw) | (go_at_call 10; refine (Clock.right_any S.arc).mono ?_; rintro e w' ⟨rfl, hw⟩; replace S := S.next hw; replace hc := S.cells; clear hw))
    go_ret
    exact ⟨rfl, S.below⟩
  have Hr := Lib.hid (show a.right from of_decide_eq_true hr)
  by_cases h : t < 0 ∨ 1048576 < t
  · rcases h with h | h
    all_goals
      go_enter Try.func4, Try.ntmps4
      go_wp2_with (first | (go_at_call 8; refine (Busy.small_any _).mono ?_; rintro e w' ⟨rfl, hw⟩; replace S := S.next hw; replace hc := S.cells; clear hw) | (go_at_call 9; refine (Hours.few_any S.arc).mono ?_; rintro e w' ⟨rfl, hw⟩; replace S := S.next hw; replace hc := S.cells; clear hw) | (go_at_call 10; refine (Clock.right_any S.arc).mono ?_; rintro e w' ⟨rfl, hw⟩; replace S := S.next hw; replace hc := S.cells; clear hw))
      go_ret
      exact ⟨rfl, S.below⟩
  · have h0 : 0 ≤ t := by omega
    have h1 : t ≤ 1048576 := by omega
    clear h
    obtain ⟨u, hu, u0, u1⟩ : ∃ u, (if 1048576 < t + x then 1048576 else t + x) = u ∧ t ≤ u ∧ u ≤ 1048576 := ⟨_, rfl, by split <;> omega, by split <;> omega⟩
    have e0 := Arc.passF_yes hi Hr.out ⟨h0, h1⟩
    have e1 := Arc.tookF_yes hi Hr.out ⟨h0, h1⟩
    have e2 := Arc.passF_yes hi Hr.out (t := u) ⟨by omega, u1⟩
    have e3 := Arc.tookF_yes hi Hr.out (t := u) ⟨by omega, u1⟩
    obtain ⟨b, hb⟩ : ∃ b, a.pass hi t = b := ⟨_, rfl⟩
    obtain ⟨b1, b2⟩ := Arc.pass_bd Hr.out hi h1
    have b3 := (a.pass_is hi h1).2 u u0 u1
    have b4 := a.pass_mono hi u0 u1
    obtain ⟨v, v0, v1, v2⟩ := (a.pass_is hi h1).1
    have Hv := Lib.hid v2
    have t1 := (a.tk_bd Hr.out hi t)
    have t2 := (a.tk_bd Hr.out hi u)
    have t3 := (a.tk_bd Hr.out hi v).1
    rw [hb] at e0 b1 b2 b3 b4 Hv
    clear v2
    obtain ⟨q, hq⟩ : ∃ q, a.pass hi u = q := ⟨_, rfl⟩
    obtain ⟨q1, q2⟩ := Arc.pass_bd Hr.out hi u1
    rw [hq] at e2 b4 q1 q2
    clear hq hb
    go_enter Try.func4, Try.ntmps4
    go_wp2_with (first | (go_at_call 8; refine (Busy.small_any _).mono ?_; rintro e w' ⟨rfl, hw⟩; replace S := S.next hw; replace hc := S.cells; clear hw) | (go_at_call 9; refine (Hours.few_any S.arc).mono ?_; rintro e w' ⟨rfl, hw⟩; replace S := S.next hw; replace hc := S.cells; clear hw) | (go_at_call 10; refine (Clock.right_any S.arc).mono ?_; rintro e w' ⟨rfl, hw⟩; replace S := S.next hw; replace hc := S.cells; clear hw) | (go_at_call 12; refine (Clock.took_any S.arc _ _).mono ?_; rintro e w' ⟨rfl, hw⟩; replace S := S.next hw; replace hc := S.cells; clear hw) | (go_at_call 14; refine (Clock.pass_any S.arc _ _).mono ?_; rintro e w' ⟨rfl, hw⟩; replace S := S.next hw; replace hc := S.cells; clear hw))
    clear hc hf hr e0 e1 e2 e3 hu
    go_loopw [12, 13] (fun fd k wr => ∃ (f : Bool) (K : Int), fd = .bool f ∧ k = .int .i64 K ∧ t ≤ K ∧ K ≤ 1048577 ∧
        Hid (f = false → ∀ y, t ≤ y → y < K → y + a.tk hi y ≠ b) ∧ Box w wr w.heap.size #[.int .i64 a.f, .int .i64 a.t, .slice A n c, .slice A' n' c'] a)
      (fun _ k _ => 1048578 - (intOf k).toNat)
    case atStart => exact ⟨false, t, rfl, rfl, by omega, by omega, fun _ y y1 y2 => by omega, S⟩
    case round =>
      clear S
      obtain ⟨f, K, rfl, rfl, k1, k2, H, S⟩ := hrel
      have hc := S.cells
      cases f
      · by_cases hk : K ≤ b ∧ K ≤ 1048576
        · obtain ⟨g1, g2⟩ := hk
          have e1 := Arc.tookF_yes hi Hr.out (t := K) ⟨by omega, g2⟩
          have e2 := a.tk_bd Hr.out hi K
          go_wp2_with (go_at_call 12; refine (Clock.took_any S.arc _ _).mono ?_; rintro e w' ⟨rfl, hw⟩; replace S := S.next hw; replace hc := S.cells; clear hw)
          go_roundw
          case rel =>
            refine ⟨_, K + 1, rfl, rfl, by omega, by omega, fun h y y1 y2 => ?_, S⟩
            by_cases e : y = K
            · subst e; simpa using h
            · exact H.out (by first | rfl | trivial) y y1 (by omega)
          case measure => simp [intOf]; omega
        · exfalso
          have := Hv.out
          exact H.out (by first | rfl | trivial) v v0 (by omega) (by omega)
      · by_cases hk : K ≤ b
        · by_cases hk' : K ≤ 1048576
          all_goals
            go_wp2_with fail
            go_ret
            exact ⟨rfl, S.below⟩
        · go_wp2_with fail
          go_ret
          exact ⟨rfl, S.below⟩

set_option maxRecDepth 100000 in
set_option maxHeartbeats 1600000 in
theorem last_law {w : World} {v : Value} {a : Arc} (ha : IsArc w v a) (x : Int) (_ : (Lit.int .i64 x).wf = true) (t : Int) (_ : (Lit.int .i64 t).wf = true) (hi : Bool) :
    Calls Try.prog 5 #[v, .int .i64 x, .int .i64 t, .bool hi] w fun e w' => e = .returned (.bool true) ∧ Below w.heap.size w w' := by
  obtain ⟨A, n, c, A', n', c', rfl, k⟩ := id ha
  clear k
  have S := Box.first ha
  have hc := S.cells
  cases hf : a.few
  · go_enter Try.func5, Try.ntmps5
    go_wp2_with (first | (go_at_call 8; refine (Busy.small_any _).mono ?_; rintro e w' ⟨rfl, hw⟩; replace S := S.next hw; replace hc := S.cells; clear hw) | (go_at_call 9; refine (Hours.few_any S.arc).mono ?_; rintro e w' ⟨rfl, hw⟩; replace S := S.next hw; replace hc := S.cells; clear hw))
    go_ret
    exact ⟨rfl, S.below⟩
  cases hr : a.rightB
  · go_enter Try.func5, Try.ntmps5
    go_wp2_with (first | (go_at_call 8; refine (Busy.small_any _).mono ?_; rintro e w' ⟨rfl, hw⟩; replace S := S.next hw; replace hc := S.cells; clear hw) | (go_at_call 9; refine (Hours.few_any S.arc).mono ?_; rintro e w' ⟨rfl, hw⟩; replace S := S.next hw; replace hc := S.cells; clear hw) | (go_at_call 10; refine (Clock.right_any S.arc).mono ?_; rintro e w' ⟨rfl, hw⟩; replace S := S.next hw; replace hc := S.cells; clear hw))
    go_ret
    exact ⟨rfl, S.below⟩
  have Hr := Lib.hid (show a.right from of_decide_eq_true hr)
  have e0 := Arc.lastF_yes hi x Hr.out
  obtain ⟨l, hl⟩ : ∃ l, a.last hi x = l := ⟨_, rfl⟩
  have L := a.last_is hi x
  have L1 := a.last_le Hr.out hi x
  have L2 : 0 ≤ t → t ≤ 1048576 → (a.pass hi t ≤ x ↔ t ≤ l) := fun h0 h1 => by rw [← hl]; exact a.last_iff hi x h0 h1
  rw [hl] at e0 L L1
  clear hl
  obtain ⟨l0, l1, l2, l3⟩ := L
  have l3 := l3 (l + 1) (by omega)
  have H2 := Lib.hid L2; have h2 := Lib.hid l2; have h3 := Lib.hid l3; clear L2 l2 l3
  obtain ⟨m, hm, m1⟩ : ∃ m, (if x < -1 then -1 else x) = m ∧ l ≤ m := ⟨_, rfl, by split <;> omega⟩
  have P1 : l < 0 ∨ (0 ≤ l ∧ a.passF hi l = a.pass hi l ∧ a.pass hi l ≤ x) := by
    by_cases c : 0 ≤ l
    · exact .inr ⟨c, Arc.passF_yes hi Hr.out ⟨c, l1⟩, h2.out c⟩
    · exact .inl (by omega)
  have P2 : 1048576 ≤ l ∨ (l < 1048576 ∧ a.passF hi (l + 1) = a.pass hi (l + 1) ∧ x < a.pass hi (l + 1)) := by
    by_cases c : l < 1048576
    · exact .inr ⟨c, Arc.passF_yes hi Hr.out ⟨by omega, by omega⟩, h3.out (by omega)⟩
    · exact .inl (by omega)
  have P3 : t < 0 ∨ (0 ≤ t ∧ 1048576 < t) ∨ (0 ≤ t ∧ t ≤ 1048576 ∧ a.passF hi t = a.pass hi t ∧ ((decide (a.pass hi t ≤ x) == decide (t ≤ l)) = true)) := by
    by_cases c : t < 0
    · exact .inl c
    · by_cases c' : 1048576 < t
      · exact .inr (.inl ⟨by omega, c'⟩)
      · refine .inr (.inr ⟨by omega, by omega, Arc.passF_yes hi Hr.out ⟨by omega, by omega⟩, ?_⟩)
        have := H2.out (by omega) (by omega)
        simp [this]
  rcases P1 with p1 | ⟨p1, p2, p3⟩ <;> rcases P2 with q1 | ⟨q1, q2, q3⟩ <;> rcases P3 with r1 | ⟨r0, r1⟩ | ⟨r0, r1, r2, r3⟩
  all_goals first
    | (exfalso; omega)
    | (go_enter Try.func5, Try.ntmps5
       go_wp2_with (first | (go_at_call 8; refine (Busy.small_any _).mono ?_; rintro e w' ⟨rfl, hw⟩; replace S := S.next hw; replace hc := S.cells; clear hw) | (go_at_call 9; refine (Hours.few_any S.arc).mono ?_; rintro e w' ⟨rfl, hw⟩; replace S := S.next hw; replace hc := S.cells; clear hw) | (go_at_call 10; refine (Clock.right_any S.arc).mono ?_; rintro e w' ⟨rfl, hw⟩; replace S := S.next hw; replace hc := S.cells; clear hw) | (go_at_call 16; refine (Clock.last_any S.arc _ _).mono ?_; rintro e w' ⟨rfl, hw⟩; replace S := S.next hw; replace hc := S.cells; clear hw) | (go_at_call 14; refine (Clock.pass_any S.arc _ _).mono ?_; rintro e w' ⟨rfl, hw⟩; replace S := S.next hw; replace hc := S.cells; clear hw))
       go_ret
       exact ⟨rfl, S.below⟩)
end Order
end Go.Proofs.Ytjdjadnmlbmjdaa
