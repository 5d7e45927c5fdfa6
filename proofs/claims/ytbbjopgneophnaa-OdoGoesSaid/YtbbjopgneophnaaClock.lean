/- The contracts of package clock: each function returns what the plain mathematics says, and writes nothing that was there. -/
import Derived.Test.YtbbjopgneophnaaMem
import Derived.Outline
namespace Go.Proofs.Ytbbjopgneophnaa
set_option linter.unusedVariables false
set_option linter.unusedSimpArgs false
open Go.RowKit
namespace Clock

set_option maxHeartbeats 400000 in
/-- clock.Right, the lists at 24 elements each. -/
theorem right_walk (f t : Int) (b off c b' off' c' : Nat) (L H : List Int) (w : World) (hf : 0 ≤ f) (ht : 0 ≤ t)
    (hb : b < w.heap.size) (hc : ∀ i, i < 24 → w.cell? ⟨b, off + i, none⟩ = some (.int .i64 (L.getD i 0)))
    (hb' : b' < w.heap.size) (hc' : ∀ i, i < 24 → w.cell? ⟨b', off' + i, none⟩ = some (.int .i64 (H.getD i 0))) :
    Calls Try.prog 39 #[.agg #[.int .i64 f, .int .i64 t, .slice (some ⟨b, off, none⟩) 24 c, .slice (some ⟨b', off', none⟩) 24 c']] w fun e w' =>
      e = .returned (.bool (decide (okTo L H 24))) ∧ Below w.heap.size w w' := by
  go_enter Try.func39, Try.ntmps39
  go_wp2
  go_loop [28] (fun i => ∃ k : Nat, k ≤ 24 ∧ okTo L H k ∧ i = .int .i64 k) (fun i => 24 - (intOf i).toNat)
  case atStart => exact ⟨0, by omega, okTo_zero _ _, rfl⟩
  case round =>
    obtain ⟨k, hk, hok, rfl⟩ := hrel
    have Hok := Lib.hid hok; clear hok
    by_cases hlt : k < 24
    · have h1 := hc k hlt
      have h2 := hc' k hlt
      have Hs := Lib.hid (fun a b c => okTo_succ Hok.out (n := k) a b c)
      have Hn : Hid (¬ (0 ≤ L.getD k 0 ∧ L.getD k 0 ≤ H.getD k 0 ∧ H.getD k 0 ≤ 600) → decide (okTo L H 24) = false) := Lib.hid fun h => decide_eq_false fun g => h (g k hlt)
      generalize L.getD k 0 = l at *
      generalize H.getD k 0 = h at *
      clear hc hc'
      go_wp2
      case roundEnd =>
        refine ⟨⟨k + 1, by omega, Hs.out (by omega) (by omega) (by omega), by go_num⟩, by simp [intOf]; omega⟩
      all_goals
        go_ret
        refine ⟨ret_bool ?_, below1 _ _⟩
        exact (Hn.out (by omega)).symm
    · obtain rfl : k = 24 := by omega
      clear hc hc'
      go_wp2
      go_ret
      exact ⟨ret_bool (by simp [Hok.out]), below1 _ _⟩

set_option maxHeartbeats 800000 in
/-- clock.Right. -/
theorem right_any {w : World} {v : Value} {a : Arc} (ha : IsArc w v a) :
    Calls Try.prog 39 #[v] w fun e w' => e = .returned (.bool a.rightB) ∧ Below w.heap.size w w' := by
  obtain ⟨A, n, c, A', n', c', rfl, ⟨hl, hm, h1⟩, ⟨hl', hm', h1'⟩⟩ := ha
  obtain ⟨f, t, L, H⟩ := a
  simp only at hl hl' h1 h1' ⊢
  have Hr := Lib.hid (show (⟨f, t, L, H⟩ : Arc).rightB = decide (0 ≤ f ∧ 0 ≤ t ∧ n = 24 ∧ n' = 24 ∧ okTo L H 24) by unfold Arc.rightB Arc.right; simp only [hl, hl'])
  by_cases h : 0 ≤ f ∧ 0 ≤ t ∧ n = 24 ∧ n' = 24
  · obtain ⟨hf, ht, rfl, rfl⟩ := h
    obtain ⟨b, off, rfl, hb, hc⟩ := h1.resolve_left (by omega)
    obtain ⟨b', off', rfl, hb', hc'⟩ := h1'.resolve_left (by omega)
    refine (right_walk f t b off c b' off' c' L H w hf ht hb hc hb' hc').mono fun e w' ⟨he, hw⟩ => ⟨?_, hw⟩
    rw [he, Hr.out]
    exact ret_bool (by simp [hf, ht])
  · have Hf := Lib.hid (show (⟨f, t, L, H⟩ : Arc).rightB = false by rw [Hr.out]; exact decide_eq_false fun g => h ⟨g.1, g.2.1, g.2.2.1, g.2.2.2.1⟩)
    clear Hr h1 h1' hl hl'
    have G : ∀ w', (Below w.heap.size w w') → Ending.returned (.bool false) = .returned (.bool (⟨f, t, L, H⟩ : Arc).rightB) ∧ Below w.heap.size w w' := fun w' hw => ⟨ret_bool Hf.out.symm, hw⟩
    have G := Lib.hid G
    clear Hf
    by_cases hf : f < 0
    · clear h
      go_enter Try.func39, Try.ntmps39
      go_wp2
      go_ret
      exact G.out _ (below1 _ _)
    by_cases ht : t < 0
    · clear h
      go_enter Try.func39, Try.ntmps39
      go_wp2
      go_ret
      exact G.out _ (below1 _ _)
    by_cases hn : n = 24
    · have hn' : ((n' : Int) != 24) = true := by rw [bne_iff_ne]; omega
      subst hn
      clear h
      go_enter Try.func39, Try.ntmps39
      go_wp2
      go_ret
      exact G.out _ (below1 _ _)
    · have hn' : ((n : Int) != 24) = true := by rw [bne_iff_ne]; omega
      clear h hn
      go_enter Try.func39, Try.ntmps39
      go_wp2
      go_ret
      exact G.out _ (below1 _ _)

set_option maxHeartbeats 400000 in
/-- clock.took. -/
theorem took_low {w : World} {v : Value} {a : Arc} (ha : IsArc w v a) (hr : a.right) (hi : Bool) (x : Int) (hx0 : 0 ≤ x) (hx1 : x ≤ 1048576) :
    Calls Try.prog 37 #[v, .int .i64 x, .bool hi] w fun e w' => e = .returned (.int .i64 (a.tk hi x)) ∧ Below w.heap.size w w' := by
  obtain ⟨A, n, c, A', n', c', rfl, ⟨hl, hm, h1⟩, ⟨hl', hm', h1'⟩⟩ := ha
  obtain ⟨f, t, L, H⟩ := a
  obtain ⟨_, _, l1, l2, _⟩ := hr
  simp only at hl hl' h1 h1' l1 l2 ⊢
  obtain rfl : n = 24 := by omega
  obtain rfl : n' = 24 := by omega
  obtain ⟨b, off, rfl, hb, hc⟩ := h1.resolve_left (by omega)
  obtain ⟨b', off', rfl, hb', hc'⟩ := h1'.resolve_left (by omega)
  have g1 := hc ((x / 60 % 24).toNat) (by omega)
  have g2 := hc' ((x / 60 % 24).toNat) (by omega)
  clear hc hc' hl hl' l1 l2 h1 h1'
  have h2 : 0 ≤ x / 60 % 24 := by omega
  have h3 : x / 60 % 24 < 24 := by omega
  cases hi
  all_goals
    go_enter Try.func37, Try.ntmps37
    go_wp2
    go_ret
    exact ⟨rfl, below1 _ _⟩

set_option maxHeartbeats 400000 in
/-- clock.valid. -/
theorem valid_any {w : World} {v : Value} {a : Arc} (ha : IsArc w v a) (x : Int) :
    Calls Try.prog 36 #[v, .int .i64 x] w fun e w' => e = .returned (.bool (a.validB x)) ∧ Below w.heap.size w w' := by
  obtain ⟨A, n, c, A', n', c', rfl, k⟩ := id ha
  clear k
  by_cases h0 : 0 ≤ x
  · by_cases h1 : x ≤ 1048576
    · have Hd := Lib.hid (Arc.validB_yes (a := a) ⟨h0, h1⟩)
      go_enter Try.func36, Try.ntmps36
      go_wp2_with (go_at_call 39; refine (right_any (ha.alloc _)).mono ?_; rintro e w' ⟨rfl, hw⟩)
      go_ret
      exact ⟨ret_bool Hd.out.symm, behind hw⟩
    · have Hd := Lib.hid (Arc.validB_no (a := a) (t := x) fun g => h1 g.2)
      go_enter Try.func36, Try.ntmps36
      go_wp2_with fail
      go_ret
      exact ⟨ret_bool Hd.out.symm, below1 _ _⟩
  · have Hd := Lib.hid (Arc.validB_no (a := a) (t := x) fun g => h0 g.1)
    go_enter Try.func36, Try.ntmps36
    go_wp2_with fail
    go_ret
    exact ⟨ret_bool Hd.out.symm, below1 _ _⟩

end Clock
end Go.Proofs.Ytbbjopgneophnaa
