/- ClockTells: the walk. -/
import Derived.Test.YtjdjadnmlbmjdaaRef10
namespace Go.Proofs.Ytjdjadnmlbmjdaa
open Go.RowKit Go.BigFrame
namespace Tells10

set_option maxRecDepth 100000 in
set_option maxHeartbeats 1600000 in
theorem tells_law {w : World} {v : Value} {a : Arc} (ha : IsArc w v a) (t : Int) (_ : (Lit.int .i64 t).wf = true) (hi : Bool) :
    Calls Try.prog 3 #[v, .int .i64 t, .bool hi] w fun e w' => e = .returned (.bool true) ∧ Below w.heap.size w w' := by
  obtain ⟨A, n, c, A', n', c', rfl, k⟩ := id ha
  clear k
  have S := Box.first ha
  have hc := S.cells
  cases hf : a.few
  · go_enter Try.func3, Try.ntmps3
    go_wp2_with (first | (go_at_call 8; refine (Busy.small_any _).mono ?_; rintro e w' ⟨rfl, hw⟩; replace S := S.next hw; replace hc := S.cells; clear hw) | (go_at_call 9; refine (Hours.few_any S.arc).mono ?_; rintro e w' ⟨rfl, hw⟩; replace S := S.next hw; replace hc := S.cells; clear hw))
    go_ret
    exact ⟨rfl, S.below⟩
  · have e1 : (a.rightB == a.rightB) = true := by simp
    have e2 : (a.tookF hi t == a.tookF hi t) = true := by simp
    have e3 : (a.passF hi t == a.passF hi t) = true := by simp
    have e4 : (a.lastF hi t == a.lastF hi t) = true := by simp
    go_enter Try.func3, Try.ntmps3
    go_wp2_with (first | (go_at_call 8; refine (Busy.small_any _).mono ?_; rintro e w' ⟨rfl, hw⟩; replace S := S.next hw; replace hc := S.cells; clear hw) | (go_at_call 9; refine (Hours.few_any S.arc).mono ?_; rintro e w' ⟨rfl, hw⟩; replace S := S.next hw; replace hc := S.cells; clear hw))
    refine wp_region_class (InBox w w.heap.size #[.int .i64 a.f, .int .i64 a.t, .slice A n c, .slice A' n' c'] a) (by kernel_rfl) (by kernel_rfl) (Box.drew S) ?_
    repeat (go_big_quiet_step (first
      | (intro S1; go_at_call 10; exact (Clock.right_any (Box.arc S1)).mono fun e w2 ⟨h, hb⟩ => ⟨h, Box.next S1 hb⟩)
      | (intro S1; go_at_call 11; exact (Ref10.right_any (Box.arc S1)).mono fun e w2 ⟨h, hb⟩ => ⟨h, Box.next S1 hb⟩)
      | (intro S1; go_at_call 12; exact (Clock.took_any (Box.arc S1) _ _).mono fun e w2 ⟨h, hb⟩ => ⟨h, Box.next S1 hb⟩)
      | (intro S1; go_at_call 13; exact (Ref10.took_any (Box.arc S1) _ _).mono fun e w2 ⟨h, hb⟩ => ⟨h, Box.next S1 hb⟩)
      | (intro S1; go_at_call 14; exact (Clock.pass_any (Box.arc S1) _ _).mono fun e w2 ⟨h, hb⟩ => ⟨h, Box.next S1 hb⟩)
      | (intro S1; go_at_call 15; exact (Ref10.pass_any (Box.arc S1) _ _).mono fun e w2 ⟨h, hb⟩ => ⟨h, Box.next S1 hb⟩)
      | (intro S1; go_at_call 16; exact (Clock.last_any (Box.arc S1) _ _).mono fun e w2 ⟨h, hb⟩ => ⟨h, Box.next S1 hb⟩)
      | (intro S1; go_at_call 17; exact (Ref10.last_any (Box.arc S1) _ _).mono fun e w2 ⟨h, hb⟩ => ⟨h, Box.next S1 hb⟩)
      | (intro S1; have hc1 := Box.cells S1; go_simp; rfl)))
    refine wpQuiet_nil ?_
    intro w5 S5
    go_wp2
    go_ret
    exact ⟨rfl, Box.below S5⟩
end Tells10
end Go.Proofs.Ytjdjadnmlbmjdaa
