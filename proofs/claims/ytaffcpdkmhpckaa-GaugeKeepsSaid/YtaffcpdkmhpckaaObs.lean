/- Observations in memory; gauge.Right; the library's Clone, Min and Max on integers. -/
import Derived.Test.YtaffcpdkmhpckaaPlainGauge
import Derived.Test.YtaffcpdkmhpckaaOwn
import Derived.Outline
import Derived.WalkSpells
namespace Go.Proofs.Ytaffcpdkmhpckaa
open Go.RowKit
set_option linter.unusedVariables false
set_option linter.unusedSimpArgs false

/-- A slice of observations that reads as l. -/
def IsObs (w : World) (A : Option Addr) (n : Nat) (l : List Obs) : Prop :=
  l.length = n ∧ n ≤ 9223372036854775807 ∧ (n = 0 ∨ ∃ b off, A = some ⟨b, off, none⟩ ∧ b < w.heap.size ∧ ∀ i, i < n → w.cell? ⟨b, off + i * 2, none⟩ = some (.int .i64 (l.getD i default).s) ∧ w.cell? ⟨b, off + i * 2 + 1, none⟩ = some (.int .i64 (l.getD i default).t))
theorem IsObs.below {w w' : World} {A : Option Addr} {n : Nat} {l : List Obs} (h : IsObs w A n l) {B : Nat} (hb : Below B w w') (hB : w.heap.size ≤ B) : IsObs w' A n l := by
  obtain ⟨h1, h2, h3⟩ := h
  refine ⟨h1, h2, ?_⟩
  rcases h3 with h3 | ⟨b, off, e, hlt, hc⟩
  · exact .inl h3
  · refine .inr ⟨b, off, e, by have := hb.size; omega, fun i hi => ?_⟩
    rw [hb.cell (p := ⟨b, off + i * 2, none⟩) (by show b < B; omega), hb.cell (p := ⟨b, off + i * 2 + 1, none⟩) (by show b < B; omega)]
    exact hc i hi

namespace Gauge
set_option maxHeartbeats 400000 in
/-- The test that gauge.Right hands to the library. -/
theorem bad_any (s t : Int) (w : World) : Calls Try.prog 30 #[.agg #[.int .i64 s, .int .i64 t]] w fun e w' => e = .returned (.bool (!(⟨s, t⟩ : Obs).okB)) ∧ Below w.heap.size w w' := by
  have H := Lib.hid (show (⟨s, t⟩ : Obs).okB = (decide (0 ≤ s) && decide (s ≤ 1048576) && decide (0 ≤ t) && decide (t ≤ 10000)) from rfl)
  by_cases h1 : s < 0
  · go_enter Try.func30, Try.ntmps30
    go_wp2
    go_ret
    exact ⟨ret_bool (by rw [H.out]; simp; omega), below1 _ _⟩
  by_cases h2 : 1048576 < s
  · go_enter Try.func30, Try.ntmps30
    go_wp2
    go_ret
    exact ⟨ret_bool (by rw [H.out]; simp; omega), below1 _ _⟩
  by_cases h3 : t < 0
  · go_enter Try.func30, Try.ntmps30
    go_wp2
    go_ret
    exact ⟨ret_bool (by rw [H.out]; simp; omega), below1 _ _⟩
  go_enter Try.func30, Try.ntmps30
  go_wp2
  go_ret
  refine ⟨ret_bool ?_, below1 _ _⟩
  rw [H.out]
  by_cases h4 : 10000 < t <;> simp [h4] <;> omega

set_option maxHeartbeats 800000 in
theorem index_any {w : World} {A : Option Addr} {n c : Nat} {l : List Obs} (hl : IsObs w A n l) :
    Calls Try.prog 34 #[.slice A n c, .func (.func 30) #[] #[]] w fun e w' => e = .returned (.int .i64 (firstBad l)) ∧ Below w.heap.size w w' := by
  obtain ⟨h1, h2, h3⟩ := hl
  go_enter Try.func34, Try.ntmps34
  go_wp2_with fail
  go_loopw [8] (fun i wr => ∃ k : Nat, k ≤ n ∧ i = .int .i64 k ∧ Hid (∀ j, j < k → (l.getD j default).okB = true) ∧ Below w.heap.size w wr) (fun i _ => n - (intOf i).toNat)
  case atStart => exact ⟨0, by omega, rfl, fun j hj => by omega, Below.refl _ _⟩
  case round =>
    obtain ⟨k, hk, rfl, Hg, hw⟩ := hrel
    by_cases hlt : k < n
    · obtain ⟨b, off, rfl, hb, hc⟩ := h3.resolve_left (by omega)
      obtain ⟨c1, c2⟩ := hc k hlt
      have d1 := (hw.cell (p := ⟨b, off + k * 2, none⟩) hb).trans c1
      have d2 := (hw.cell (p := ⟨b, off + k * 2 + 1, none⟩) hb).trans c2
      have Hb := Lib.hid (fun hb => firstBad_at (l := l) (k := k) (by omega) Hg.out hb)
      have Hn := Lib.hid (fun (h : (l.getD k default).okB = true) j (hj : j < k + 1) => if e : j = k then e ▸ h else Hg.out j (by omega))
      generalize l.getD k default = o at *
      obtain ⟨s, t⟩ := o
      simp only at d1 d2
      clear hc c1 c2 h1
      cases ho : (⟨s, t⟩ : Obs).okB
      · have ho' : (!(⟨s, t⟩ : Obs).okB) = true := by rw [ho]; rfl
        go_wp2_with (go_at_call 30; refine (bad_any _ _ _).mono ?_; rintro e w2 ⟨rfl, hw2⟩)
        go_ret
        exact ⟨ret_int (Hb.out ho).symm, hw.trans (hw2.mono hw.size)⟩
      · have ho' : (!(⟨s, t⟩ : Obs).okB) = false := by rw [ho]; rfl
        go_wp2_with (go_at_call 30; refine (bad_any _ _ _).mono ?_; rintro e w2 ⟨rfl, hw2⟩)
        go_roundw
        case rel => exact ⟨k + 1, by omega, by go_num, Hn.out ho, hw.trans (hw2.mono hw.size)⟩
        case measure => simp [intOf]; omega
    · obtain rfl : k = n := by omega
      have Hb := Lib.hid (firstBad_none (l := l) (by rw [h1]; exact Hg.out))
      clear h1 h3
      go_wp2_with fail
      go_ret
      exact ⟨ret_int Hb.out.symm, hw⟩

theorem contains_any {w : World} {A : Option Addr} {n c : Nat} {l : List Obs} (hl : IsObs w A n l) :
    Calls Try.prog 29 #[.slice A n c, .func (.func 30) #[] #[]] w fun e w' => e = .returned (.bool (!l.all Obs.okB)) ∧ Below w.heap.size w w' := by
  have H := Lib.hid (firstBad_all l)
  cases ha : l.all Obs.okB
  · have h0 : 0 ≤ firstBad l := H.out.2 ha
    clear H ha
    go_enter Try.func29, Try.ntmps29
    go_wp2_with (go_at_call 34; refine (index_any hl).mono ?_; rintro e w2 ⟨rfl, hw2⟩)
    go_ret
    exact ⟨ret_bool (by simp [h0]), hw2⟩
  · have h0 : ¬ 0 ≤ firstBad l := fun h => by have := H.out.1 h; rw [ha] at this; cases this
    clear H ha
    go_enter Try.func29, Try.ntmps29
    go_wp2_with (go_at_call 34; refine (index_any hl).mono ?_; rintro e w2 ⟨rfl, hw2⟩)
    go_ret
    exact ⟨ret_bool (by simp [h0]), hw2⟩

/-- gauge.Right. -/
theorem right_any {w : World} {A : Option Addr} {n c : Nat} {l : List Obs} (hl : IsObs w A n l) :
    Calls Try.prog 14 #[.slice A n c] w fun e w' => e = .returned (.bool (obsRightB l)) ∧ Below w.heap.size w w' := by
  have hm := hl.2.1
  have H := Lib.hid (show obsRightB l = (decide ((n : Int) ≤ 10000) && l.all Obs.okB) by unfold obsRightB; rw [hl.1]; congr 1; simp; omega)
  by_cases h : (n : Int) ≤ 10000
  · go_enter Try.func14, Try.ntmps14
    go_wp2_with (go_at_call 29; refine (contains_any hl).mono ?_; rintro e w2 ⟨rfl, hw2⟩)
    go_ret
    exact ⟨ret_bool (by rw [H.out]; simp [h]), hw2⟩
  · go_enter Try.func14, Try.ntmps14
    go_wp2_with fail
    go_ret
    exact ⟨ret_bool (by rw [H.out, decide_eq_false (Int.not_le.2 h)]; rfl), Below.refl _ _⟩

set_option maxHeartbeats 400000 in
theorem min_any {w : World} {A : Option Addr} {n c : Nat} {xs : List Int} (hx : IsInts w A n xs) (h0 : 0 < n) :
    Calls Try.prog 24 #[.slice A n c] w fun e w' => e = .returned (.int .i64 (minL xs)) ∧ w = w' := by
  obtain ⟨h1, h2, h3⟩ := hx
  obtain ⟨b, off, rfl, hb, hc⟩ := h3.resolve_left (by omega)
  obtain ⟨x, r, rfl⟩ : ∃ x r, xs = x :: r := by cases xs with | nil => simp at h1; omega | cons x r => exact ⟨x, r, rfl⟩
  have c0 : w.cell? ⟨b, off, none⟩ = some (.int .i64 x) := by simpa using hc 0 h0
  have hn : r.length + 1 = n := by simpa using h1
  have hc' : ∀ k, k < r.length → w.cell? ⟨b, off + (k + 1), none⟩ = some (.int .i64 (r.getD k 0)) := fun k hk => by simpa using hc (k + 1) (by omega)
  have Hs := Lib.hid (fun k (hk : k < r.length) => take_fold (fun a b => if b < a then b else a) x r k hk)
  clear hc h1 h3
  subst hn
  go_enter Try.func24, Try.ntmps24
  go_wp2
  go_loop [3, 4] (fun m i => ∃ k : Nat, k ≤ r.length ∧ i = .int .i64 (k + 1) ∧ m = .int .i64 ((r.take k).foldl (fun a b => if b < a then b else a) x)) (fun _ i => r.length + 1 - (intOf i).toNat)
  case atStart => exact ⟨0, by omega, rfl, rfl⟩
  case round =>
    obtain ⟨k, hk, rfl, rfl⟩ := hrel
    by_cases hlt : k < r.length
    · have g1 := hc' k hlt
      have g2 := Lib.hid (Hs.out k hlt)
      generalize r.getD k 0 = y at *
      generalize (r.take k).foldl (fun a b => if b < a then b else a) x = m at *
      clear hc'
      go_wp2
      go_round
      case rel => exact ⟨k + 1, by omega, by go_num, by rw [g2.out]⟩
      case measure => simp [intOf]; omega
    · obtain rfl : k = r.length := by omega
      clear hc'
      go_wp2
      go_ret
      exact ⟨ret_int (by first | rfl | (rw [List.take_length]; rfl)), rfl⟩

set_option maxHeartbeats 400000 in
theorem max_any {w : World} {A : Option Addr} {n c : Nat} {xs : List Int} (hx : IsInts w A n xs) (h0 : 0 < n) :
    Calls Try.prog 25 #[.slice A n c] w fun e w' => e = .returned (.int .i64 (maxL xs)) ∧ w = w' := by
  obtain ⟨h1, h2, h3⟩ := hx
  obtain ⟨b, off, rfl, hb, hc⟩ := h3.resolve_left (by omega)
  obtain ⟨x, r, rfl⟩ : ∃ x r, xs = x :: r := by cases xs with | nil => simp at h1; omega | cons x r => exact ⟨x, r, rfl⟩
  have c0 : w.cell? ⟨b, off, none⟩ = some (.int .i64 x) := by simpa using hc 0 h0
  have hn : r.length + 1 = n := by simpa using h1
  have hc' : ∀ k, k < r.length → w.cell? ⟨b, off + (k + 1), none⟩ = some (.int .i64 (r.getD k 0)) := fun k hk => by simpa using hc (k + 1) (by omega)
  have Hs := Lib.hid (fun k (hk : k < r.length) => take_fold (fun a b => if a < b then b else a) x r k hk)
  clear hc h1 h3
  subst hn
  go_enter Try.func25, Try.ntmps25
  go_wp2
  go_loop [3, 4] (fun m i => ∃ k : Nat, k ≤ r.length ∧ i = .int .i64 (k + 1) ∧ m = .int .i64 ((r.take k).foldl (fun a b => if a < b then b else a) x)) (fun _ i => r.length + 1 - (intOf i).toNat)
  case atStart => exact ⟨0, by omega, rfl, rfl⟩
  case round =>
    obtain ⟨k, hk, rfl, rfl⟩ := hrel
    by_cases hlt : k < r.length
    · have g1 := hc' k hlt
      have g2 := Lib.hid (Hs.out k hlt)
      generalize r.getD k 0 = y at *
      generalize (r.take k).foldl (fun a b => if a < b then b else a) x = m at *
      clear hc'
      go_wp2
      go_round
      case rel => exact ⟨k + 1, by omega, by go_num, by rw [g2.out]⟩
      case measure => simp [intOf]; omega
    · obtain rfl : k = r.length := by omega
      clear hc'
      go_wp2
      go_ret
      exact ⟨ret_int (by first | rfl | (rw [List.take_length]; rfl)), rfl⟩

set_option maxHeartbeats 400000 in
/-- slices.Clone, of a slice that is not empty: the elements in a block of their own. -/
theorem clone_some {w : World} {b off n c : Nat} {xs : List Int} (hx : IsInts w (some ⟨b, off, none⟩) n xs) (h0 : 0 < n) (hm : n ≤ 1000000) :
    Calls Try.prog 23 #[.slice (some ⟨b, off, none⟩) n c] w fun e w' => ∃ g c', e = .returned (.slice (some ⟨g, 0, none⟩) n c') ∧ w.heap.size ≤ g ∧ w'.ownsRow w.heap.size 3 1 (.slice (some ⟨g, 0, none⟩) n c') n (xs.map (Value.int .i64)) ∧ Below w.heap.size w w' := by
  obtain ⟨i0, ti, hz0, hz1, hz2⟩ := info_parts infoInt
  obtain ⟨h1, h2, h3⟩ := hx
  obtain ⟨b', off', e, hb, hc⟩ := h3.resolve_left (by omega)
  simp only [Option.some.injEq, Addr.mk.injEq, and_true] at e
  obtain ⟨rfl, rfl⟩ := e
  have Hc := Lib.hid (ints_cells (w := w) (xs := xs) (fun i hi => hc i (by omega)))
  have H1 := Lib.hid h1
  clear hc h1 h3
  go_enter Try.func23, Try.ntmps23
  have hnil := fun w => Lib.run_eql_slice_nil (P := Try.prog) w 22 3 (some ⟨b, off, none⟩) n c 0 0 Try.underlying22
  go_wp2_with (at_builtin; refine wpList_plain rfl (fun K hK => ?_); refine wp_append_copy (.tmp 5) (.tmp 6) 22 rfl w.heap.size 3 i0 (.int .i64 0) 8 Try.underlying22 ti hz0 hz1 hz2 rfl w.heap.size rfl (World.ownsRow_made w #[] 0 (Nat.le_refl _) (by unfold maxLen; omega) rfl) b off n c (xs.map (Value.int .i64)) rfl h0 (by simp [H1.out]) (fun j u hj => (World.cell?_alloc_lt w _ ⟨b, off + j, none⟩ hb).trans (Hc.out j u hj)) ints_one (by omega) (by omega) (by simp) ?_; intro c2 w2 o2 b2; refine hK _ _ ?_)
  go_ret
  simp only [World.size_alloc] at o2
  exact ⟨_, _, rfl, by simp, o2, behind b2⟩

/-- slices.Clone of the nil slice. -/
theorem clone_nil (w : World) : Calls Try.prog 23 #[.slice none 0 0] w fun e w' => e = .returned (.slice none 0 0) ∧ w = w' := by
  have hnil := fun w => Lib.run_eql_slice_nil (P := Try.prog) w 22 3 none 0 0 0 0 Try.underlying22
  go_enter Try.func23, Try.ntmps23
  go_wp2_with fail
  go_ret
  exact ⟨rfl, rfl⟩
end Gauge
end Go.Proofs.Ytaffcpdkmhpckaa
