/- The plain law of labels: ways and their spans; when an arc is entered. -/
import Derived.Test.YtcjgofcfinbpeaaL14
import Derived.Test.YtcjgofcfinbpeaaPlainLabel
namespace Go.Proofs.Ytcjgofcfinbpeaa
set_option linter.unusedVariables false
set_option linter.unusedSimpArgs false
open T
theorem runW_goL {A : List DArc} {hi : Bool} {x s : Int} {W : List Int} : ∀ {k : Nat}, k ≤ W.length → runW A W hi s k = (goL A hi (x, s) (W.take k)).2
  | 0, _ => rfl
  | k + 1, h => by rw [goL_take (by omega), runW, runW_goL (x := x) (by omega)]
theorem passF_time {a : Arc} {hi : Bool} {t : Int} (h : 0 ≤ a.passF hi t) : timeB t = true := by
  unfold Arc.passF at h
  split at h
  · rename_i q; exact timeB_iff.2 (Arc.validB_true q).1
  · exact absurd h (by decide)
theorem runW_time {A : List DArc} {hi : Bool} {s : Int} {W : List Int} : ∀ {k j : Nat}, j < k → 0 ≤ runW A W hi s k → timeB (runW A W hi s j) = true
  | k + 1, j, hj, h => by
    rw [runW] at h
    have h1 := passF_time h
    by_cases c : j = k
    · subst c; exact h1
    · exact runW_time (by omega) (timeB_iff.1 h1).1
/-- The way to a node has the time of its label. -/
theorem way_span {A : List DArc} {n src : Nat} {start : Int} {R : List DLab} (h : rightR n A = true) (ht : timeB start = true) (F : Found false (moveE A true) A.length n src start R) {v : Nat} (hv : v < n) (h0 : 0 ≤ (R.getD v (0, 0)).1) :
    ∃ l, spanF A (wayF R A v) start = (l, (R.getD v (0, 0)).1, 0, ()) ∧ l ≤ (R.getD v (0, 0)).1 := by
  obtain ⟨g1, g2⟩ := (way_found (intoE h true) F hv).2 (by omega)
  have hl := wayF_length (L := R) (A := A) (to := v)
  have hR := F.hL
  have tv := timeB_iff.1 (found_tm F hv h0)
  generalize wayF R A v = W at g1 g2 hl ⊢
  obtain ⟨⟨n1, n2⟩, hAl, hall⟩ := rightR_all h
  have hA : ∀ a ∈ A, (toArc a).right := fun a ha => of_decide_eq_true (hall a ha).1
  have e1 : runW A W true start W.length = (R.getD v (0, 0)).1 := by rw [runW_goL (x := src) (Nat.le_refl _), List.take_length, g1]
  have hw : ∀ j, j < W.length → 0 ≤ W.getD j 0 ∧ W.getD j 0 < A.length := fun j hj => (g2 j hj).1
  have hmax : ∀ j, j < W.length → runW A W true start (j + 1) ≤ 1048576 := fun j hj => by
    by_cases c : j + 1 = W.length
    · rw [c, e1]; exact tv.2
    · exact (timeB_iff.1 (runW_time (k := W.length) (by omega) (by rw [e1]; exact h0))).2
  have s0 := timeB_iff.1 ht
  have m := runW_mono (way := W) hA (hi := false) (hi2 := true) (fun q => by cases q) s0.1 (Int.le_refl start) s0.2 (k := W.length) hw hmax
  refine ⟨runW A W false start W.length, spanF_iff.2 ⟨⟨hAl, by omega, ht, ?_, okWay_iff.2 fun j hj => ⟨hw j hj, ?_⟩⟩, goWay_iff.2 ⟨by rw [e1], hmax⟩⟩, by rw [← e1]; exact m.2.1⟩
  · rw [List.any_eq_false]
    intro a ha
    rw [(hall a ha).1]; decide
  · cases j with
    | zero => exact .inl rfl
    | succ j =>
      right
      have := (g2 (j + 1) hj).2
      rw [goL_take (by omega)] at this
      exact this.symm
/-- No way to a node is before its label. -/
theorem way_after {A : List DArc} {n src : Nat} {start : Int} {hi : Bool} {R : List DLab} {W : List Int} (h : rightR n A = true) (hs : timeB start = true) (F : Found false (moveE A hi) A.length n src start R)
    (hok : okWay A W W.length = true) (h0 : (A.getD (W.getD 0 0).toNat (0, 0, [], [])).1 = src) (hmax : ∀ j, j < W.length → 0 ≤ runW A W hi start (j + 1) ∧ runW A W hi start (j + 1) ≤ 1048576) :
    ∀ k, k < W.length → 0 ≤ (R.getD (A.getD (W.getD k 0).toNat (0, 0, [], [])).2.1.toNat (0, 0)).1 ∧ (R.getD (A.getD (W.getD k 0).toNat (0, 0, [], [])).2.1.toNat (0, 0)).1 ≤ runW A W hi start (k + 1) := by
  have hw := okWay_iff.1 hok
  have step : ∀ k, k < W.length → 0 ≤ (R.getD (A.getD (W.getD k 0).toNat (0, 0, [], [])).1.toNat (0, 0)).1 → (R.getD (A.getD (W.getD k 0).toNat (0, 0, [], [])).1.toNat (0, 0)).1 ≤ runW A W hi start k → timeB (runW A W hi start k) = true →
      0 ≤ (R.getD (A.getD (W.getD k 0).toNat (0, 0, [], [])).2.1.toNat (0, 0)).1 ∧ (R.getD (A.getD (W.getD k 0).toNat (0, 0, [], [])).2.1.toNat (0, 0)).1 ≤ runW A W hi start (k + 1) := by
    intro k hk q0 q1 q2
    obtain ⟨⟨k1, k2⟩, _⟩ := hw k hk
    obtain ⟨i, ei⟩ : ∃ i : Nat, W.getD k 0 = (i : Int) := ⟨(W.getD k 0).toNat, by omega⟩
    have hm := hmax k hk
    rw [runW] at hm ⊢
    rw [ei] at k2 q0 q1 hm ⊢
    rw [show ((i : Int)).toNat = i from rfl] at q0 q1 hm ⊢
    have hil : i < A.length := by omega
    have hin := intoE h hi i hil
    have hr := (right_at h hil).1
    have tu := found_tm F (v := (A.getD i (0, 0, [], [])).1.toNat) (by show (moveE A hi i).1.toNat < n; omega) q0
    have p := pass_step_le (a := toArc (A.getD i (0, 0, [], []))) hr (hi := hi) (hj := hi) (fun _ => Int.le_refl _) q2 tu q1 (timeB_iff.2 hm)
    have c := F.closed i hil q0 p.1
    have c1 : 0 ≤ (R.getD (A.getD i (0, 0, [], [])).2.1.toNat (0, 0)).1 := c.1
    have c2 : (R.getD (A.getD i (0, 0, [], [])).2.1.toNat (0, 0)).1 ≤ (toArc (A.getD i (0, 0, [], []))).passF hi (R.getD (A.getD i (0, 0, [], [])).1.toNat (0, 0)).1 := c.2
    have p2 := p.2
    exact ⟨c1, by omega⟩
  intro k
  induction k with
  | zero =>
    intro hk
    have s0 := timeB_iff.1 hs
    refine step 0 hk ?_ ?_ hs
    · rw [h0, Int.toNat_natCast, F.src]; exact s0.1
    · rw [h0, Int.toNat_natCast, F.src]; exact Int.le_refl _
  | succ k ih =>
    intro hk
    obtain ⟨i1, i2⟩ := ih (by omega)
    have e : (A.getD (W.getD (k + 1) 0).toNat (0, 0, [], [])).1 = (A.getD (W.getD k 0).toNat (0, 0, [], [])).2.1 := by
      rcases (hw (k + 1) hk).2 with q | q
      · cases q
      · exact q.symm
    refine step (k + 1) hk (by rw [e]; exact i1) (by rw [e]; exact i2) (timeB_iff.2 (hmax k (by omega)))
theorem span_max {A : List DArc} {W : List Int} {s l h : Int} (e : spanF A W s = (l, h, 0, ())) : l = runW A W false s W.length ∧ h = runW A W true s W.length ∧ timeB s = true ∧ okWay A W W.length = true ∧ (∀ a ∈ A, (toArc a).right) ∧ ∀ j, j < W.length → runW A W true s (j + 1) ≤ 1048576 := by
  obtain ⟨⟨_, _, q1, q2, q3⟩, q4⟩ := spanF_iff.1 e
  obtain ⟨q5, q6⟩ := goWay_iff.1 q4
  exact ⟨(Prod.mk.inj q5).1, (Prod.mk.inj q5).2, q1, q3, any_right q2, q6⟩
/-- Both results of a span, and what lies before. -/
theorem span_mono {A : List DArc} {W : List Int} {s : Int} (hs : timeB s = true) (hok : okWay A W W.length = true) (hA : ∀ a ∈ A, (toArc a).right) (hmax : ∀ j, j < W.length → runW A W true s (j + 1) ≤ 1048576) : ∀ k, k ≤ W.length → s ≤ runW A W false s k ∧ runW A W false s k ≤ runW A W true s k ∧ runW A W true s k ≤ 1048576 := by
  intro k hk
  have s0 := timeB_iff.1 hs
  have m := runW_mono (way := W) hA (hi := false) (hi2 := true) (fun q => by cases q) s0.1 (Int.le_refl s) s0.2 (k := k) (fun j hj => ((okWay_iff.1 hok) j (by omega)).1) (fun j hj => hmax j (by omega))
  exact ⟨m.1, m.2.1, by have := m.2.2; omega⟩
/-- When an arc is entered, so that one arrives at the earliest at the high bounds: the first such minute of k. -/
def enterTo (a : Arc) (now : Int) : Nat → Int
  | 0 => now
  | k + 1 => if now + k + a.tk true (now + k) < enterTo a now k + a.tk true (enterTo a now k) then now + k else enterTo a now k
theorem enterTo_spec (a : Arc) (now : Int) : ∀ k, (now ≤ enterTo a now k ∧ enterTo a now k ≤ now + k) ∧ ∀ j < k, enterTo a now k + a.tk true (enterTo a now k) ≤ now + (j : Nat) + a.tk true (now + (j : Nat))
  | 0 => ⟨⟨Int.le_refl _, by show now ≤ now + ((0 : Nat) : Int); omega⟩, fun j hj => absurd hj (Nat.not_lt_zero j)⟩
  | k + 1 => by
    obtain ⟨i1, i2⟩ := enterTo_spec a now k
    unfold enterTo
    split
    · rename_i c
      refine ⟨⟨by omega, by omega⟩, fun j hj => ?_⟩
      by_cases d : j = k
      · subst d; exact Int.le_refl _
      · have := i2 j (by omega); omega
    · rename_i c
      refine ⟨⟨i1.1, by omega⟩, fun j hj => ?_⟩
      by_cases d : j = k
      · subst d; omega
      · exact i2 j (by omega)
def enterF (a : Arc) (now : Int) : Int := enterTo a now 1441
theorem enter_pass {a : Arc} (hr : a.right) {now : Int} (h0 : 0 ≤ now) (h1 : now ≤ 1048576) (hp : a.pass true now ≤ 1048576) : now ≤ enterF a now ∧ enterF a now ≤ 1048576 ∧ enterF a now + a.tk true (enterF a now) = a.pass true now := by
  obtain ⟨⟨i1, i2⟩, i3⟩ := enterTo_spec a now 1441
  obtain ⟨⟨u, u1, u2, u3⟩, h⟩ := a.pass_is true h1
  have b := (a.pass_bd hr true h1).2
  have c := (a.tk_bd hr true now).2
  have d := (a.tk_bd hr true u).1
  have k1 := i3 (u - now).toNat (by omega)
  rw [show now + ((u - now).toNat : Int) = u by omega] at k1
  have d2 := (a.tk_bd hr true (enterF a now)).1
  have i1' : now ≤ enterF a now := i1
  have k1' : enterF a now + a.tk true (enterF a now) ≤ u + a.tk true u := k1
  have k2 := h (enterF a now) i1' (by omega)
  exact ⟨i1', by omega, by omega⟩
/-- One arrives between both bounds, whatever the arc takes. -/
theorem arrive_step {a : Arc} (hr : a.right) {l h now z : Int} (h0 : 0 ≤ l) (h1 : l ≤ now) (h2 : now ≤ h) (h3 : h ≤ 1048576) (hp : a.passF true h ≤ 1048576) (hz : a.tk false (enterF a now) ≤ z ∧ z ≤ a.tk true (enterF a now)) :
    a.passF false l ≤ enterF a now + z ∧ enterF a now + z ≤ a.passF true h := by
  rw [Arc.passF_yes _ hr ⟨by omega, h3⟩] at hp ⊢
  rw [Arc.passF_yes _ hr ⟨h0, by omega⟩]
  have m := Arc.pass_mono (a := a) true h2 h3
  obtain ⟨e1, e2, e3⟩ := enter_pass hr (by omega) (show now ≤ 1048576 by omega) (by omega)
  have p := (a.pass_is false (t := now) (by omega)).2 (enterF a now) e1 e2
  have m2 := Arc.pass_mono (a := a) false h1 (by omega)
  exact ⟨by omega, by omega⟩
end Go.Proofs.Ytcjgofcfinbpeaa
