/- The contracts of tonneauref10. -/
import Derived.Test.YtjdjadnmlbmjdaaHours
import Derived.WalkSmall
namespace Go.Proofs.Ytjdjadnmlbmjdaa
open Go.RowKit Go.BigFrame
namespace Ref10

/-- Time. -/
theorem time_any (t : Int) (w : World) : Calls Try.prog 21 #[.int .i64 t] w fun e w' => e = .returned (.bool (timeB t)) ∧ w = w' := by
  by_cases h0 : 0 ≤ t
  · by_cases h1 : t ≤ 1048576
    · have e := Lib.hid (show timeB t = true from decide_eq_true ⟨h0, h1⟩)
      go_enter Try.func21, Try.ntmps21
      go_wp2
      go_ret
      exact ⟨ret_bool e.out.symm, rfl⟩
    · have e := Lib.hid (show timeB t = false from decide_eq_false fun g => h1 g.2)
      go_enter Try.func21, Try.ntmps21
      go_wp2
      go_ret
      exact ⟨ret_bool e.out.symm, rfl⟩
  · have e := Lib.hid (show timeB t = false from decide_eq_false fun g => h0 g.1)
    go_enter Try.func21, Try.ntmps21
    go_wp2
    go_ret
    exact ⟨ret_bool e.out.symm, rfl⟩
/-- Hour. -/
theorem hour_any (t : Int) (h0 : 0 ≤ t) (h1 : t ≤ 1048576) (w : World) : Calls Try.prog 22 #[.int .i64 t] w fun e w' => e = .returned (.int .i64 (hour t)) ∧ w = w' := by
  have e := Lib.hid (show ((hour t : Nat) : Int) = t / 60 % 24 by unfold hour; omega)
  go_enter Try.func22, Try.ntmps22
  go_wp2
  go_ret
  exact ⟨ret_int e.out.symm, rfl⟩

set_option maxRecDepth 100000 in
set_option maxHeartbeats 1600000 in
/-- Right, the lists at 24 elements each. -/
theorem right_walk (f t : Int) (b off c b' off' c' : Nat) (L H : List Int) (w : World) (hf : 0 ≤ f) (ht : 0 ≤ t)
    (hb : b < w.heap.size) (hc : ∀ i, i < 24 → w.cell? ⟨b, off + i, none⟩ = some (.int .i64 (L.getD i 0)))
    (hb' : b' < w.heap.size) (hc' : ∀ i, i < 24 → w.cell? ⟨b', off' + i, none⟩ = some (.int .i64 (H.getD i 0))) :
    Calls Try.prog 11 #[.agg #[.int .i64 f, .int .i64 t, .slice (some ⟨b, off, none⟩) 24 c, .slice (some ⟨b', off', none⟩) 24 c']] w fun e w' =>
      e = .returned (.bool (decide (okTo L H 24))) ∧ Below w.heap.size w w' := by
  have S := Lib.hid (below1 w (.cells #[.int .i64 f, .int .i64 t, .slice (some ⟨b, off, none⟩) 24 c, .slice (some ⟨b', off', none⟩) 24 c'] 24))
  go_enter Try.func11, Try.ntmps11
  go_wp2
  go_loopw [3] (fun i wr => ∃ (k m : Nat), k ≤ 24 ∧ okTo L H k ∧ i = .int .i64 k ∧ wr = (w.alloc (.cells #[.int .i64 f, .int .i64 t, .slice (some ⟨b, off, none⟩) 24 c, .slice (some ⟨b', off', none⟩) 24 c'] 24)).drewN m) (fun i _ => 24 - (intOf i).toNat)
  case atStart => exact ⟨0, 0, by omega, okTo_zero _ _, rfl, by rfl⟩
  case round =>
    obtain ⟨k, m, hk, hok, rfl, rfl⟩ := hrel
    have Hok := Lib.hid hok; clear hok
    by_cases hlt : k < 24
    · have h1 := hc k hlt
      have h2 := hc' k hlt
      have i0 : (0 : Int) ≤ k := by omega
      have i1 : (k : Int) < 24 := by omega
      have Hs := Lib.hid (fun a b c => okTo_succ Hok.out (n := k) a b c)
      have Hn : Hid (¬ (0 ≤ L.getD k 0 ∧ L.getD k 0 ≤ H.getD k 0 ∧ H.getD k 0 ≤ 600) → decide (okTo L H 24) = false) := Lib.hid fun h => decide_eq_false fun g => h (g k hlt)
      generalize L.getD k 0 = l at *
      generalize H.getD k 0 = h at *
      clear hc hc'
      have B := S.out
      by_cases c1 : l < 0
      · have d1 : decide (l < 0) = true := by simpa using c1
        go_wp2
        go_quiet (fail)
        go_wp2
        go_ret
        exact ⟨ret_bool (Hn.out (by omega)).symm, below_drewN (below_drewN B _) _⟩
      · have d1 : decide (l < 0) = false := by simpa using c1
        by_cases c2 : h < l
        · have d2 : decide (h < l) = true := by simpa using c2
          go_wp2
          go_quiet (fail)
          go_wp2
          go_ret
          exact ⟨ret_bool (Hn.out (by omega)).symm, below_drewN (below_drewN B _) _⟩
        · have d2 : decide (h < l) = false := by simpa using c2
          by_cases c3 : 600 < h
          · have d3 : decide (600 < h) = true := by simpa using c3
            go_wp2
            go_quiet (fail)
            go_wp2
            go_ret
            exact ⟨ret_bool (Hn.out (by omega)).symm, below_drewN (below_drewN B _) _⟩
          · have d3 : decide (600 < h) = false := by simpa using c3
            go_wp2
            go_quiet (fail)
            go_wp2
            go_roundw
            case rel => exact ⟨k + 1, _, by omega, Hs.out (by omega) (by omega) (by omega), by go_num, rfl⟩
            case measure => simp [intOf]; omega
    · obtain rfl : k = 24 := by omega
      have B := S.out
      clear hc hc'
      go_wp2
      go_ret
      exact ⟨ret_bool (by simp [Hok.out]), below_drewN B _⟩

set_option maxHeartbeats 800000 in
/-- Right. -/
theorem right_any {w : World} {v : Value} {a : Arc} (ha : IsArc w v a) :
    Calls Try.prog 11 #[v] w fun e w' => e = .returned (.bool a.rightB) ∧ Below w.heap.size w w' := by
  obtain ⟨A, n, c, A', n', c', rfl, ⟨hl, hm, h1⟩, ⟨hl', hm', h1'⟩⟩ := ha
  obtain ⟨f, t, L, H⟩ := a
  simp only at hl hl' h1 h1' ⊢
  have Hr := Lib.hid (show (⟨f, t, L, H⟩ : Arc).rightB = decide (0 ≤ f ∧ 0 ≤ t ∧ n = 24 ∧ n' = 24 ∧ okTo L H 24) by unfold Arc.rightB Arc.right; simp only [hl, hl'])
  by_cases h : 0 ≤ f ∧ 0 ≤ t ∧ n = 24 ∧ n' = 24
  · obtain ⟨hf, ht, rfl, rfl⟩ := h
    obtain ⟨b, off, rfl, hb, hc⟩ := h1.resolve_left (by omega)
    obtain ⟨b', off', rfl, hb', hc'⟩ := h1'.resolve_left (by omega)
    refine (right_walk f t b off c b' off' c' L H w hf ht hb hc hb' hc').mono fun e w' ⟨he, hw⟩ => ⟨?_, hw⟩
    rw [he, Hr.out]
    exact ret_bool (by simp [hf, ht])
  · have Hf := Lib.hid (show (⟨f, t, L, H⟩ : Arc).rightB = false by rw [Hr.out]; exact decide_eq_false fun g => h ⟨g.1, g.2.1, g.2.2.1, g.2.2.2.1⟩)
    clear Hr h1 h1' hl hl'
    have G : ∀ w', (Below w.heap.size w w') → Ending.returned (.bool false) = .returned (.bool (⟨f, t, L, H⟩ : Arc).rightB) ∧ Below w.heap.size w w' := fun w' hw => ⟨ret_bool Hf.out.symm, hw⟩
    have G := Lib.hid G
    clear Hf
    by_cases hf : f < 0
    · clear h
      go_enter Try.func11, Try.ntmps11
      go_wp2
      go_ret
      exact G.out _ (below1 _ _)
    by_cases ht : t < 0
    · clear h
      go_enter Try.func11, Try.ntmps11
      go_wp2
      go_ret
      exact G.out _ (below1 _ _)
    by_cases hn : n = 24
    · have hn' : ((n' : Int) != 24) = true := by rw [bne_iff_ne]; omega
      subst hn
      clear h
      go_enter Try.func11, Try.ntmps11
      go_wp2
      go_ret
      exact G.out _ (below1 _ _)
    · have hn' : ((n : Int) != 24) = true := by rw [bne_iff_ne]; omega
      clear h hn
      go_enter Try.func11, Try.ntmps11
      go_wp2
      go_ret
      exact G.out _ (below1 _ _)


set_option maxHeartbeats 800000 in
/-- Took. -/
theorem took_any {w : World} {v : Value} {a : Arc} (ha : IsArc w v a) (x : Int) (hi : Bool) :
    Calls Try.prog 13 #[v, .int .i64 x, .bool hi] w fun e w' => e = .returned (.int .i64 (a.tookF hi x)) ∧ Below w.heap.size w w' := by
  obtain ⟨A, n, c, A', n', c', rfl, k⟩ := id ha
  have S := Box.first ha
  have hc := S.cells
  cases hr : a.rightB
  · have He := Lib.hid (show a.tookF hi x = -1 by unfold Arc.tookF Arc.validB; rw [if_neg]; intro h; have h := of_decide_eq_true h; rw [show a.rightB = true from decide_eq_true h.2] at hr; cases hr)
    clear k
    go_enter Try.func13, Try.ntmps13
    go_wp2_with (first | (go_at_call 11; refine (right_any S.arc).mono ?_; rintro e w' ⟨rfl, hw⟩; replace S := S.next hw; replace hc := S.cells; clear hw) | (go_at_call 21; refine (time_any _ _).mono ?_; rintro e w' ⟨rfl, rfl⟩))
    go_ret
    exact ⟨ret_int He.out.symm, S.below⟩
  cases ht : timeB x
  · have He := Lib.hid (show a.tookF hi x = -1 by unfold Arc.tookF Arc.validB; rw [if_neg]; intro h; have h := of_decide_eq_true h; rw [show timeB x = true from decide_eq_true h.1] at ht; cases ht)
    clear k
    go_enter Try.func13, Try.ntmps13
    go_wp2_with (first | (go_at_call 11; refine (right_any S.arc).mono ?_; rintro e w' ⟨rfl, hw⟩; replace S := S.next hw; replace hc := S.cells; clear hw) | (go_at_call 21; refine (time_any _ _).mono ?_; rintro e w' ⟨rfl, rfl⟩))
    go_ret
    exact ⟨ret_int He.out.symm, S.below⟩
  have R : a.right := of_decide_eq_true hr
  have T : isTime x := of_decide_eq_true ht
  have He := Lib.hid (Arc.tookF_yes hi R T)
  obtain ⟨x0, x1⟩ := T
  obtain ⟨⟨hl, hm, g1⟩, ⟨hl', hm', g1'⟩⟩ := k
  obtain ⟨_, _, r3, r4, _⟩ := R
  obtain ⟨f, t, L, H⟩ := a
  simp only at hl hl' g1 g1' r3 r4 ⊢
  obtain rfl : n = 24 := by omega
  obtain rfl : n' = 24 := by omega
  obtain ⟨b, off, rfl, hb, hcc⟩ := g1.resolve_left (by omega)
  obtain ⟨b', off', rfl, hb', hcc'⟩ := g1'.resolve_left (by omega)
  have l0 := hour_lt x
  have m1 := hcc (hour x) l0
  have m2 := hcc' (hour x) l0
  clear hcc hcc' g1 g1' hl hl' r3 r4
  have j0 : (0 : Int) ≤ hour x := by omega
  have j1 : ((hour x : Nat) : Int) < 24 := by omega
  have hbs : b ≠ w.heap.size := by omega
  have hbs' : b' ≠ w.heap.size := by omega
  cases hi
  all_goals
    go_enter Try.func13, Try.ntmps13
    go_wp2_with (first
      | (go_at_call 11; refine (right_any S.arc).mono ?_; rintro e w' ⟨rfl, hw⟩; replace S := S.next hw; replace hc := S.cells; have mm1 := (S.below.cell (p := ⟨b, off + hour x, none⟩) hb).trans m1; have mm2 := (S.below.cell (p := ⟨b', off' + hour x, none⟩) hb').trans m2; clear hw)
      | (go_at_call 21; refine (time_any _ _).mono ?_; rintro e w' ⟨rfl, rfl⟩)
      | (go_at_call 22; refine (hour_any x x0 x1 _).mono ?_; rintro e w' ⟨rfl, rfl⟩))
    go_quiet ((go_at_call 22; exact Calls.quiet_of_same ((hour_any x x0 x1 _).mono fun _ _ ⟨h, k⟩ => ⟨h, k.symm⟩)))
    go_wp2
    go_ret
    exact ⟨ret_int He.out.symm, below_drewN S.below _⟩

theorem first1 (a : Arc) (hi : Bool) (x : Int) : ∀ v, x ≤ v → v < x + 1 → x + a.tk hi x ≤ v + a.tk hi v := by
  intro v v1 v2
  obtain rfl : v = x := by omega
  exact Int.le_refl _
theorem pass_step1 {a : Arc} {hi : Bool} {t u best : Int} (h1 : ∃ v, t ≤ v ∧ v ≤ 1048576 ∧ best = v + a.tk hi v) (h2 : ∀ v, t ≤ v → v < u → best ≤ v + a.tk hi v) (hu : t ≤ u) (hu' : u ≤ 1048576) :
    (∃ v, t ≤ v ∧ v ≤ 1048576 ∧ (if u + a.tk hi u < best then u + a.tk hi u else best) = v + a.tk hi v) ∧ ∀ v, t ≤ v → v < u + 1 → (if u + a.tk hi u < best then u + a.tk hi u else best) ≤ v + a.tk hi v := by
  refine ⟨?_, fun v v1 v2 => ?_⟩
  · split
    · exact ⟨u, hu, hu', rfl⟩
    · exact h1
  · by_cases c : v = u
    · subst c; split <;> omega
    · have := h2 v v1 (by omega); split <;> omega

set_option maxHeartbeats 800000 in
/-- Pass. -/
theorem pass_any {w : World} {v : Value} {a : Arc} (ha : IsArc w v a) (x : Int) (hi : Bool) :
    Calls Try.prog 15 #[v, .int .i64 x, .bool hi] w fun e w' => e = .returned (.int .i64 (a.passF hi x)) ∧ Below w.heap.size w w' := by
  obtain ⟨A, n, c, A', n', c', rfl, k⟩ := id ha
  clear k
  have S := Box.first ha
  have hc := S.cells
  cases h : a.validB x
  · have He := Lib.hid (show a.passF hi x = -1 by unfold Arc.passF; simp [h])
    have e1 : a.tookF hi x = -1 := by unfold Arc.tookF; simp [h]
    clear h
    go_enter Try.func15, Try.ntmps15
    go_wp2_with (go_at_call 13; refine (took_any S.arc _ _).mono ?_; rintro e w' ⟨rfl, hw⟩; replace S := S.next hw; replace hc := S.cells; clear hw)
    go_ret
    exact ⟨ret_int He.out.symm, S.below⟩
  · obtain ⟨ht, hr⟩ := a.validB_true h
    have He := Lib.hid (Arc.passF_yes hi hr ht)
    have e1 := Arc.tookF_yes hi hr ht
    obtain ⟨h0, h1⟩ := ht
    obtain ⟨t0, t1⟩ := a.tk_bd hr hi x
    have Hr := Lib.hid hr
    clear hr h
    go_enter Try.func15, Try.ntmps15
    go_wp2_with (go_at_call 13; refine (took_any S.arc _ _).mono ?_; rintro e w' ⟨rfl, hw⟩; replace S := S.next hw; replace hc := S.cells; clear hw)
    clear hc e1
    go_loopw [8, 9] (fun best u wr => ∃ B U : Int, best = .int .i64 B ∧ u = .int .i64 U ∧ x ≤ B ∧ B ≤ 1049176 ∧ x < U ∧ U ≤ 1048577 ∧
        Hid (∃ v, x ≤ v ∧ v ≤ 1048576 ∧ B = v + a.tk hi v) ∧ Hid (∀ v, x ≤ v → v < U → B ≤ v + a.tk hi v) ∧ Box w wr w.heap.size #[.int .i64 a.f, .int .i64 a.t, .slice A n c, .slice A' n' c'] a)
      (fun _ u _ => 2000000 - (intOf u).toNat)
    case atStart => exact ⟨_, _, rfl, rfl, by omega, by omega, by omega, by omega, ⟨x, by omega, h1, rfl⟩, first1 a hi x, S⟩
    case round =>
      clear S
      obtain ⟨B, U, rfl, rfl, b1, b2, u1, u2, h3, h4, S⟩ := hrel
      have hc := S.cells
      by_cases hk : U ≤ B ∧ U ≤ 1048576
      · obtain ⟨g1, g2⟩ := hk
        have e1 := Arc.tookF_yes hi Hr.out (t := U) ⟨by omega, g2⟩
        obtain ⟨q0, q1⟩ := a.tk_bd Hr.out hi U
        go_wp2_with (go_at_call 13; refine (took_any S.arc _ _).mono ?_; rintro e w' ⟨rfl, hw⟩; replace S := S.next hw; replace hc := S.cells; clear hw)
        go_roundw
        case rel =>
          have P := pass_step1 h3.out h4.out (by omega) g2
          exact ⟨_, _, rfl, rfl, by split <;> omega, by split <;> omega, by omega, by omega, P.1, P.2, S⟩
        case measure => simp [intOf]; omega
      · have P := Lib.hid (pass_done (a := a) Hr.out h1 h3.out (fun v v1 v2 _ => h4.out v v1 v2) (by omega))
        by_cases g1 : U ≤ B
        · have g2 : 1048576 < U := by omega
          clear hk
          go_wp2_with fail
          go_ret
          exact ⟨ret_int (by rw [He.out, P.out]), S.below⟩
        · clear hk
          go_wp2_with fail
          go_ret
          exact ⟨ret_int (by rw [He.out, P.out]), S.below⟩

set_option maxHeartbeats 800000 in
/-- Last. -/
theorem last_any {w : World} {v : Value} {a : Arc} (ha : IsArc w v a) (x : Int) (hi : Bool) :
    Calls Try.prog 17 #[v, .int .i64 x, .bool hi] w fun e w' => e = .returned (.int .i64 (a.lastF hi x)) ∧ Below w.heap.size w w' := by
  obtain ⟨A, n, c, A', n', c', rfl, k⟩ := id ha
  clear k
  have S := Box.first ha
  have hc := S.cells
  cases h : a.rightB
  · have He := Lib.hid (show a.lastF hi x = -1 by unfold Arc.lastF; simp [h])
    go_enter Try.func17, Try.ntmps17
    go_wp2_with (go_at_call 11; refine (right_any S.arc).mono ?_; rintro e w' ⟨rfl, hw⟩; replace S := S.next hw; replace hc := S.cells; clear hw)
    go_ret
    exact ⟨ret_int He.out.symm, S.below⟩
  · have hr : a.right := of_decide_eq_true h
    have He := Lib.hid (Arc.lastF_yes hi x hr)
    have Hr := Lib.hid hr; clear hr
    obtain ⟨m, hm, m1, m2, m3⟩ : ∃ m, (if 1048576 < x then 1048576 else x) = m ∧ m ≤ 1048576 ∧ m ≤ x ∧ (m = x ∨ m = 1048576) := ⟨_, rfl, by split <;> omega, by split <;> omega, by split <;> omega⟩
    have M3 := Lib.hid m3; clear m3
    go_enter Try.func17, Try.ntmps17
    go_wp2_with (go_at_call 11; refine (right_any S.arc).mono ?_; rintro e w' ⟨rfl, hw⟩; replace S := S.next hw; replace hc := S.cells; clear hw)
    clear hc hm h
    go_loopw [7] (fun u wr => ∃ U : Int, u = .int .i64 U ∧ U ≤ m ∧ (0 ≤ U ∨ U = -1 ∨ U = m) ∧ Hid (U < 1048576 → x < a.pass hi (U + 1)) ∧ Box w wr w.heap.size #[.int .i64 a.f, .int .i64 a.t, .slice A n c, .slice A' n' c'] a)
      (fun u _ => (intOf u + 1).toNat)
    case atStart => exact ⟨m, rfl, by omega, .inr (.inr rfl), last_start Hr.out hi x m M3.out, S⟩
    case round =>
      clear S
      obtain ⟨U, rfl, u1, u2, H, S⟩ := hrel
      have hc := S.cells
      by_cases hu : 0 ≤ U
      · have e1 := Arc.passF_yes hi Hr.out (t := U) ⟨by omega, by omega⟩
        obtain ⟨q0, q1⟩ := a.pass_bd Hr.out hi (t := U) (by omega)
        have q2 := (a.tk_bd Hr.out hi U).2
        by_cases hp : a.pass hi U ≤ x
        · have P := Lib.hid (last_found (a := a) (hi := hi) (b := x) (l := U) (by omega) (by omega) (fun _ => hp) H.out)
          go_wp2_with (go_at_call 15; refine (pass_any S.arc _ _).mono ?_; rintro e w' ⟨rfl, hw⟩; replace S := S.next hw; replace hc := S.cells; clear hw)
          go_ret
          exact ⟨ret_int (by rw [He.out, P.out]), S.below⟩
        · go_wp2_with (go_at_call 15; refine (pass_any S.arc _ _).mono ?_; rintro e w' ⟨rfl, hw⟩; replace S := S.next hw; replace hc := S.cells; clear hw)
          go_roundw
          case rel => exact ⟨_, rfl, by omega, by omega, (fun _ => by rw [Int.sub_add_cancel]; omega), S⟩
          case measure => simp [intOf]; omega
      · have P := Lib.hid (show a.last hi x = -1 by
          by_cases c : U = -1
          · subst c; exact last_found (by omega) (by omega) (fun h => by omega) H.out
          · obtain rfl : U = m := by omega
            have := a.last_le Hr.out hi x
            have := (a.last_is hi x).1
            have := M3.out
            omega)
        clear u2
        go_wp2_with fail
        go_ret
        exact ⟨ret_int (by rw [He.out, P.out]), S.below⟩
end Ref10
end Go.Proofs.Ytjdjadnmlbmjdaa
