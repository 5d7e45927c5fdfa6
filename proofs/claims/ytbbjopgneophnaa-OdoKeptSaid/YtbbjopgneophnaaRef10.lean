/- The contracts of tonneauref10: Time, Hour, Right. -/
import Derived.Test.YtbbjopgneophnaaBox
import Derived.WalkSmall
namespace Go.Proofs.Ytbbjopgneophnaa
set_option linter.unusedVariables false
set_option linter.unusedSimpArgs false
open Go.RowKit Go.BigFrame
namespace Ref10

/-- Time. -/
theorem time_any (t : Int) (w : World) : Calls Try.prog 42 #[.int .i64 t] w fun e w' => e = .returned (.bool (timeB t)) ∧ w = w' := by
  by_cases h0 : 0 ≤ t
  · by_cases h1 : t ≤ 1048576
    · have e := Lib.hid (show timeB t = true from decide_eq_true ⟨h0, h1⟩)
      go_enter Try.func42, Try.ntmps42
      go_wp2
      go_ret
      exact ⟨ret_bool e.out.symm, rfl⟩
    · have e := Lib.hid (show timeB t = false from decide_eq_false fun g => h1 g.2)
      go_enter Try.func42, Try.ntmps42
      go_wp2
      go_ret
      exact ⟨ret_bool e.out.symm, rfl⟩
  · have e := Lib.hid (show timeB t = false from decide_eq_false fun g => h0 g.1)
    go_enter Try.func42, Try.ntmps42
    go_wp2
    go_ret
    exact ⟨ret_bool e.out.symm, rfl⟩
/-- Hour. -/
theorem hour_any (t : Int) (h0 : 0 ≤ t) (h1 : t ≤ 1048576) (w : World) : Calls Try.prog 51 #[.int .i64 t] w fun e w' => e = .returned (.int .i64 (hour t)) ∧ w = w' := by
  have e := Lib.hid (show ((hour t : Nat) : Int) = t / 60 % 24 by unfold hour; omega)
  go_enter Try.func51, Try.ntmps51
  go_wp2
  go_ret
  exact ⟨ret_int e.out.symm, rfl⟩

set_option maxRecDepth 100000 in
set_option maxHeartbeats 1600000 in
/-- Right, the lists at 24 elements each. -/
theorem right_walk (f t : Int) (b off c b' off' c' : Nat) (L H : List Int) (w : World) (hf : 0 ≤ f) (ht : 0 ≤ t)
    (hb : b < w.heap.size) (hc : ∀ i, i < 24 → w.cell? ⟨b, off + i, none⟩ = some (.int .i64 (L.getD i 0)))
    (hb' : b' < w.heap.size) (hc' : ∀ i, i < 24 → w.cell? ⟨b', off' + i, none⟩ = some (.int .i64 (H.getD i 0))) :
    Calls Try.prog 41 #[.agg #[.int .i64 f, .int .i64 t, .slice (some ⟨b, off, none⟩) 24 c, .slice (some ⟨b', off', none⟩) 24 c']] w fun e w' =>
      e = .returned (.bool (decide (okTo L H 24))) ∧ Below w.heap.size w w' := by
  have S := Lib.hid (below1 w (.cells #[.int .i64 f, .int .i64 t, .slice (some ⟨b, off, none⟩) 24 c, .slice (some ⟨b', off', none⟩) 24 c'] 54))
  go_enter Try.func41, Try.ntmps41
  go_wp2
  go_loopw [3] (fun i wr => ∃ (k m : Nat), k ≤ 24 ∧ okTo L H k ∧ i = .int .i64 k ∧ wr = (w.alloc (.cells #[.int .i64 f, .int .i64 t, .slice (some ⟨b, off, none⟩) 24 c, .slice (some ⟨b', off', none⟩) 24 c'] 54)).drewN m) (fun i _ => 24 - (intOf i).toNat)
  case atStart => exact ⟨0, 0, by omega, okTo_zero _ _, rfl, by rfl⟩
  case round =>
    obtain ⟨k, m, hk, hok, rfl, rfl⟩ := hrel
    have Hok := Lib.hid hok; clear hok
    by_cases hlt : k < 24
    · have h1 := hc k hlt
      have h2 := hc' k hlt
      have i0 : (0 : Int) ≤ k := by omega
      have i1 : (k : Int) < 24 := by omega
      have Hs := Lib.hid (fun a b c => okTo_succ Hok.out (n := k) a b c)
      have Hn : Hid (¬ (0 ≤ L.getD k 0 ∧ L.getD k 0 ≤ H.getD k 0 ∧ H.getD k 0 ≤ 600) → decide (okTo L H 24) = false) := Lib.hid fun h => decide_eq_false fun g => h (g k hlt)
      generalize L.getD k 0 = l at *
      generalize H.getD k 0 = h at *
      clear hc hc'
      have B := S.out
      by_cases c1 : l < 0
      · have d1 : decide (l < 0) = true := by simpa using c1
        go_wp2
        go_quiet (fail)
        go_wp2
        go_ret
        exact ⟨ret_bool (Hn.out (by omega)).symm, below_drewN (below_drewN B _) _⟩
      · have d1 : decide (l < 0) = false := by simpa using c1
        by_cases c2 : h < l
        · have d2 : decide (h < l) = true := by simpa using c2
          go_wp2
          go_quiet (fail)
          go_wp2
          go_ret
          exact ⟨ret_bool (Hn.out (by omega)).symm, below_drewN (below_drewN B _) _⟩
        · have d2 : decide (h < l) = false := by simpa using c2
          by_cases c3 : 600 < h
          · have d3 : decide (600 < h) = true := by simpa using c3
            go_wp2
            go_quiet (fail)
            go_wp2
            go_ret
            exact ⟨ret_bool (Hn.out (by omega)).symm, below_drewN (below_drewN B _) _⟩
          · have d3 : decide (600 < h) = false := by simpa using c3
            go_wp2
            go_quiet (fail)
            go_wp2
            go_roundw
            case rel => exact ⟨k + 1, _, by omega, Hs.out (by omega) (by omega) (by omega), by go_num, rfl⟩
            case measure => simp [intOf]; omega
    · obtain rfl : k = 24 := by omega
      have B := S.out
      clear hc hc'
      go_wp2
      go_ret
      exact ⟨ret_bool (by simp [Hok.out]), below_drewN B _⟩

set_option maxHeartbeats 800000 in
/-- Right. -/
theorem right_any {w : World} {v : Value} {a : Arc} (ha : IsArc w v a) :
    Calls Try.prog 41 #[v] w fun e w' => e = .returned (.bool a.rightB) ∧ Below w.heap.size w w' := by
  obtain ⟨A, n, c, A', n', c', rfl, ⟨hl, hm, h1⟩, ⟨hl', hm', h1'⟩⟩ := ha
  obtain ⟨f, t, L, H⟩ := a
  simp only at hl hl' h1 h1' ⊢
  have Hr := Lib.hid (show (⟨f, t, L, H⟩ : Arc).rightB = decide (0 ≤ f ∧ 0 ≤ t ∧ n = 24 ∧ n' = 24 ∧ okTo L H 24) by unfold Arc.rightB Arc.right; simp only [hl, hl'])
  by_cases h : 0 ≤ f ∧ 0 ≤ t ∧ n = 24 ∧ n' = 24
  · obtain ⟨hf, ht, rfl, rfl⟩ := h
    obtain ⟨b, off, rfl, hb, hc⟩ := h1.resolve_left (by omega)
    obtain ⟨b', off', rfl, hb', hc'⟩ := h1'.resolve_left (by omega)
    refine (right_walk f t b off c b' off' c' L H w hf ht hb hc hb' hc').mono fun e w' ⟨he, hw⟩ => ⟨?_, hw⟩
    rw [he, Hr.out]
    exact ret_bool (by simp [hf, ht])
  · have Hf := Lib.hid (show (⟨f, t, L, H⟩ : Arc).rightB = false by rw [Hr.out]; exact decide_eq_false fun g => h ⟨g.1, g.2.1, g.2.2.1, g.2.2.2.1⟩)
    clear Hr h1 h1' hl hl'
    have G : ∀ w', (Below w.heap.size w w') → Ending.returned (.bool false) = .returned (.bool (⟨f, t, L, H⟩ : Arc).rightB) ∧ Below w.heap.size w w' := fun w' hw => ⟨ret_bool Hf.out.symm, hw⟩
    have G := Lib.hid G
    clear Hf
    by_cases hf : f < 0
    · clear h
      go_enter Try.func41, Try.ntmps41
      go_wp2
      go_ret
      exact G.out _ (below1 _ _)
    by_cases ht : t < 0
    · clear h
      go_enter Try.func41, Try.ntmps41
      go_wp2
      go_ret
      exact G.out _ (below1 _ _)
    by_cases hn : n = 24
    · have hn' : ((n' : Int) != 24) = true := by rw [bne_iff_ne]; omega
      subst hn
      clear h
      go_enter Try.func41, Try.ntmps41
      go_wp2
      go_ret
      exact G.out _ (below1 _ _)
    · have hn' : ((n : Int) != 24) = true := by rw [bne_iff_ne]; omega
      clear h hn
      go_enter Try.func41, Try.ntmps41
      go_wp2
      go_ret
      exact G.out _ (below1 _ _)

end Ref10
end Go.Proofs.Ytbbjopgneophnaa
