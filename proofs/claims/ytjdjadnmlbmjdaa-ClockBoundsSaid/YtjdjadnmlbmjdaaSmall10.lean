/- tonneaulaw10.small: the documented examples have the documented results. -/
import Derived.Test.YtjdjadnmlbmjdaaClockPass
import Derived.Test.YtjdjadnmlbmjdaaBusy
import Derived.Test.YtjdjadnmlbmjdaaBox
namespace Go.Proofs.Ytjdjadnmlbmjdaa
open Go.RowKit

namespace Busy
theorem arc_right : arc.right := by decide
theorem hour_lt' (t : Int) : hour t < 24 := hour_lt t
theorem tk_low (t : Int) : arc.tk false t = 10 := by
  unfold Arc.tk Arc.row arc
  have := hour_lt t
  simp only [Bool.false_eq_true, if_false, List.getD_eq_getElem?_getD, List.getElem?_replicate, if_pos this]
  rfl
theorem tk_high (t : Int) : arc.tk true t = if hour t = 8 then 50 else 20 := by
  unfold Arc.tk Arc.row arc
  have := hour_lt t
  simp only [if_true, List.getD_eq_getElem?_getD, List.getElem?_set, List.length_replicate, List.getElem?_replicate]
  by_cases h : hour t = 8
  · simp [h]
  · have h' : ¬ 8 = hour t := fun e => h e.symm
    simp [h, h', this]
theorem took_is (t x : Int) (h0 : 0 ≤ t) (h1 : t ≤ 1048576) (h : (if hour t = 8 then (50 : Int) else 20) = x) : arc.tookF true t = x := by
  rw [Arc.tookF_yes _ arc_right ⟨h0, h1⟩, tk_high, h]
theorem pass_is (t x u : Int) (h1 : t ≤ 1048576) (hu : t ≤ u) (hu' : u ≤ 1048576) (h : x = u + if hour u = 8 then (50 : Int) else 20) (h' : ∀ v, t ≤ v → v ≤ 1048576 → x ≤ v + if hour v = 8 then (50 : Int) else 20) : arc.pass true t = x := by
  refine Arc.pass_eq h1 ⟨⟨u, hu, hu', by rw [tk_high, h]⟩, fun v v1 v2 => ?_⟩
  rw [tk_high]; exact h' v v1 v2
theorem pass_any (t : Int) (h0 : 0 ≤ t) (h1 : t ≤ 1048000) : arc.pass true t = if hour t = 8 then min (t + 50) ((t / 60 + 1) * 60 + 20) else t + 20 := by
  by_cases c : hour t = 8
  · rw [if_pos c]
    have c' : t / 60 % 24 = 8 := by unfold hour at c; omega
    by_cases d : t + 50 ≤ (t / 60 + 1) * 60 + 20
    · rw [Int.min_eq_left d]
      refine pass_is t _ t (by omega) (by omega) (by omega) (by rw [if_pos c]) fun v v1 v2 => ?_
      unfold hour
      split <;> omega
    · rw [Int.min_eq_right (by omega)]
      refine pass_is t _ ((t / 60 + 1) * 60) (by omega) (by omega) (by omega) (by rw [if_neg]; unfold hour; omega) fun v v1 v2 => ?_
      unfold hour
      split <;> omega
  · rw [if_neg c]
    refine pass_is t _ t (by omega) (by omega) (by omega) (by rw [if_neg c]) fun v v1 v2 => ?_
    split <;> omega
theorem passF_is (t x : Int) (h0 : 0 ≤ t) (h1 : t ≤ 1048000) (h : (if hour t = 8 then min (t + 50) ((t / 60 + 1) * 60 + 20) else t + 20) = x) : arc.passF true t = x := by
  rw [Arc.passF_yes _ arc_right ⟨h0, by omega⟩, pass_any t h0 h1, h]
theorem passF_low : arc.passF false 480 = 490 := by
  rw [Arc.passF_yes _ arc_right (by decide)]
  refine Arc.pass_eq (by decide) ⟨⟨480, by decide, by decide, by rw [tk_low]; decide⟩, fun v v1 v2 => ?_⟩
  rw [tk_low]; omega
theorem last_is (b l : Int) (h0 : 0 ≤ l) (h1 : l ≤ 1000000) (ha : (if hour l = 8 then min (l + 50) ((l / 60 + 1) * 60 + 20) else l + 20) ≤ b)
    (hb : b < (if hour (l + 1) = 8 then min (l + 1 + 50) (((l + 1) / 60 + 1) * 60 + 20) else l + 1 + 20)) : arc.lastF true b = l := by
  rw [Arc.lastF_yes _ _ arc_right]
  refine last_found (by omega) (by omega) (fun _ => ?_) (fun _ => ?_)
  · rw [pass_any l h0 (by omega)]; exact ha
  · rw [pass_any (l + 1) (by omega) (by omega)]; exact hb
theorem last_none : arc.lastF true 19 = -1 := by
  rw [Arc.lastF_yes _ _ arc_right]
  refine last_found (by omega) (by omega) (fun h => by omega) (fun _ => ?_)
  rw [show (-1 + 1 : Int) = 0 from rfl, pass_any 0 (by omega) (by omega)]; decide

set_option maxRecDepth 100000 in
set_option maxHeartbeats 1600000 in
theorem small_any (w : World) : Calls Try.prog 8 #[] w fun e w' => e = .returned (.bool true) ∧ Below w.heap.size w w' := by
  have a0 : arc.rightB = true := decide_eq_true arc_right
  have b0 : (arc.tookF true 479 == 20) = true := by rw [took_is 479 20 (by decide) (by decide) (by decide)]; rfl
  have b1 : (arc.tookF true 480 == 50) = true := by rw [took_is 480 50 (by decide) (by decide) (by decide)]; rfl
  have b2 : (arc.tookF true 540 == 20) = true := by rw [took_is 540 20 (by decide) (by decide) (by decide)]; rfl
  have c0 : (arc.passF true 479 == 499) = true := by rw [passF_is 479 499 (by decide) (by decide) (by decide)]; rfl
  have c1 : (arc.passF true 480 == 530) = true := by rw [passF_is 480 530 (by decide) (by decide) (by decide)]; rfl
  have c2 : (arc.passF true 535 == 560) = true := by rw [passF_is 535 560 (by decide) (by decide) (by decide)]; rfl
  have c3 : (arc.passF true 540 == 560) = true := by rw [passF_is 540 560 (by decide) (by decide) (by decide)]; rfl
  have c4 : (arc.passF false 480 == 490) = true := by rw [passF_low]; rfl
  have d0 : (arc.lastF true 530 == 480) = true := by rw [last_is 530 480 (by decide) (by decide) (by decide) (by decide)]; rfl
  have d1 : (arc.lastF true 529 == 479) = true := by rw [last_is 529 479 (by decide) (by decide) (by decide) (by decide)]; rfl
  have d2 : (arc.lastF true 19 == -1) = true := by rw [last_none]; rfl
  have d3 : (arc.lastF true 20 == 0) = true := by rw [last_is 20 0 (by decide) (by decide) (by decide) (by decide)]; rfl
  go_enter Try.func8, Try.ntmps8
  go_wp2_with fail
  refine (busy_any _).mono ?_
  rintro e w1 ⟨v, rfl, hA, hB⟩
  obtain ⟨A, n, c, A', n', c', rfl, _⟩ := id hA
  have S := (Box.first hA)
  clear hA
  have hc := S.cells
  go_wp2_with (first
    | (go_at_call 10; refine (Clock.right_any S.arc).mono ?_; rintro e w' ⟨rfl, hw⟩; replace S := S.next hw; replace hc := S.cells; clear hw)
    | (go_at_call 12; refine (Clock.took_any S.arc _ _).mono ?_; rintro e w' ⟨rfl, hw⟩; replace S := S.next hw; replace hc := S.cells; clear hw)
    | (go_at_call 14; refine (Clock.pass_any S.arc _ _).mono ?_; rintro e w' ⟨rfl, hw⟩; replace S := S.next hw; replace hc := S.cells; clear hw)
    | (go_at_call 16; refine (Clock.last_any S.arc _ _).mono ?_; rintro e w' ⟨rfl, hw⟩; replace S := S.next hw; replace hc := S.cells; clear hw))
  go_ret
  exact ⟨rfl, hB.trans (S.below.mono hB.size)⟩
end Busy
end Go.Proofs.Ytjdjadnmlbmjdaa
