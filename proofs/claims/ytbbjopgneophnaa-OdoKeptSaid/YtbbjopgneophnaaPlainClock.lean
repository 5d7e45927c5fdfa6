/- The plain mathematics of layer 10 (clock): arcs, what they take, the arrival and the latest time; no program in sight. -/
namespace Go.Proofs.Ytbbjopgneophnaa
set_option linter.unusedVariables false
set_option linter.unusedSimpArgs false

/-- An arc: from, to, and its two lists. -/
structure Arc where
  f : Int
  t : Int
  L : List Int
  H : List Int

def ok1 (L H : List Int) (h : Nat) : Prop := 0 ≤ L.getD h 0 ∧ L.getD h 0 ≤ H.getD h 0 ∧ H.getD h 0 ≤ 600
def okTo (L H : List Int) (n : Nat) : Prop := ∀ h, h < n → ok1 L H h
instance (L H : List Int) (n : Nat) : Decidable (okTo L H n) := by unfold okTo ok1; infer_instance
theorem okTo_zero (L H : List Int) : okTo L H 0 := fun _ h => by omega
theorem okTo_succ {L H : List Int} {n : Nat} (h : okTo L H n) (a : 0 ≤ L.getD n 0) (b : L.getD n 0 ≤ H.getD n 0) (c : H.getD n 0 ≤ 600) : okTo L H (n + 1) := by
  intro i hi
  by_cases e : i = n
  · subst e; exact ⟨a, b, c⟩
  · exact h i (by omega)

/-- A valid arc. -/
def Arc.right (a : Arc) : Prop := 0 ≤ a.f ∧ 0 ≤ a.t ∧ a.L.length = 24 ∧ a.H.length = 24 ∧ okTo a.L a.H 24
instance (a : Arc) : Decidable a.right := by unfold Arc.right; infer_instance
def Arc.rightB (a : Arc) : Bool := decide a.right

/-- The hour of a time. -/
def hour (t : Int) : Nat := (t / 60 % 24).toNat
theorem hour_lt (t : Int) : hour t < 24 := by unfold hour; omega

/-- The list of one bound. -/
def Arc.row (a : Arc) (hi : Bool) : List Int := if hi then a.H else a.L
/-- What the arc takes from a time on. -/
def Arc.tk (a : Arc) (hi : Bool) (t : Int) : Int := (a.row hi).getD (hour t) 0

theorem Arc.tk_bd {a : Arc} (h : a.right) (hi : Bool) (t : Int) : 0 ≤ a.tk hi t ∧ a.tk hi t ≤ 600 := by
  obtain ⟨_, _, _, _, ho⟩ := h
  obtain ⟨x, y, z⟩ := ho (hour t) (hour_lt t)
  unfold Arc.tk Arc.row
  cases hi
  · exact ⟨x, Int.le_trans y z⟩
  · exact ⟨Int.le_trans x y, z⟩
theorem Arc.tk_mono {a : Arc} (h : a.right) (t : Int) : a.tk false t ≤ a.tk true t := by
  obtain ⟨_, _, _, _, ho⟩ := h
  obtain ⟨x, y, z⟩ := ho (hour t) (hour_lt t)
  unfold Arc.tk Arc.row
  simpa using y
/-- Within an hour it takes the same. -/
theorem Arc.tk_same (a : Arc) (hi : Bool) {t u : Int} (h : t / 60 = u / 60) : a.tk hi t = a.tk hi u := by
  unfold Arc.tk hour; rw [h]
theorem Arc.tk_day (a : Arc) (hi : Bool) (t : Int) : a.tk hi (t + 1440) = a.tk hi t := by
  unfold Arc.tk hour
  congr 2
  omega

/-- The arrival: the least of u and what the arc takes from u on, of the times u from t on. -/
def IsPass (a : Arc) (hi : Bool) (t p : Int) : Prop :=
  (∃ u, t ≤ u ∧ u ≤ 1048576 ∧ p = u + a.tk hi u) ∧ ∀ u, t ≤ u → u ≤ 1048576 → p ≤ u + a.tk hi u

theorem IsPass.unique {a : Arc} {hi : Bool} {t p q : Int} (h : IsPass a hi t p) (k : IsPass a hi t q) : p = q := by
  obtain ⟨⟨u, u1, u2, u3⟩, h2⟩ := h
  obtain ⟨⟨v, v1, v2, v3⟩, k2⟩ := k
  have := h2 v v1 v2
  have := k2 u u1 u2
  omega

/-- Go's min. -/
theorem minIf (a b : Int) : min a b = if b < a then b else a := by split <;> omega
/-- The least of a function on the next n + 1 numbers. -/
def least (f : Int → Int) (t : Int) : Nat → Int
  | 0 => f t
  | n + 1 => min (least f t n) (f (t + n + 1))
theorem least_spec (f : Int → Int) (t : Int) : ∀ n : Nat, (∃ u, t ≤ u ∧ u ≤ t + n ∧ least f t n = f u) ∧ ∀ u, t ≤ u → u ≤ t + n → least f t n ≤ f u
  | 0 => by
    refine ⟨⟨t, by omega, by omega, rfl⟩, fun u h1 h2 => ?_⟩
    obtain rfl : u = t := by omega
    exact Int.le_refl _
  | n + 1 => by
    obtain ⟨⟨u, u1, u2, u3⟩, h⟩ := least_spec f t n
    have hl : least f t (n + 1) = min (least f t n) (f (t + n + 1)) := rfl
    refine ⟨?_, fun v v1 v2 => ?_⟩
    · by_cases c : least f t n ≤ f (t + n + 1)
      · exact ⟨u, u1, by omega, by rw [hl, Int.min_eq_left c]; exact u3⟩
      · exact ⟨t + n + 1, by omega, by omega, by rw [hl]; exact Int.min_eq_right (by omega)⟩
    · rw [hl]
      by_cases c : v = t + n + 1
      · subst c; exact Int.min_le_right _ _
      · exact Int.le_trans (Int.min_le_left _ _) (h v v1 (by omega))

/-- The arrival as a function. -/
def Arc.pass (a : Arc) (hi : Bool) (t : Int) : Int := least (fun u => u + a.tk hi u) t (1048576 - t).toNat
theorem Arc.pass_is (a : Arc) (hi : Bool) {t : Int} (ht : t ≤ 1048576) : IsPass a hi t (a.pass hi t) := by
  obtain ⟨⟨u, u1, u2, u3⟩, h⟩ := least_spec (fun u => u + a.tk hi u) t (1048576 - t).toNat
  exact ⟨⟨u, u1, by omega, u3⟩, fun v v1 v2 => h v v1 (by omega)⟩
theorem Arc.pass_eq {a : Arc} {hi : Bool} {t p : Int} (ht : t ≤ 1048576) (h : IsPass a hi t p) : a.pass hi t = p := (a.pass_is hi ht).unique h
theorem Arc.pass_bd {a : Arc} (h : a.right) (hi : Bool) {t : Int} (ht : t ≤ 1048576) : t ≤ a.pass hi t ∧ a.pass hi t ≤ t + a.tk hi t := by
  obtain ⟨⟨u, u1, u2, u3⟩, k⟩ := a.pass_is hi ht
  have := (a.tk_bd h hi u).1
  exact ⟨by omega, k t (by omega) ht⟩
theorem Arc.pass_mono {a : Arc} (hi : Bool) {t u : Int} (h : t ≤ u) (hu : u ≤ 1048576) : a.pass hi t ≤ a.pass hi u := by
  obtain ⟨⟨v, v1, v2, v3⟩, k⟩ := a.pass_is hi hu
  have := (a.pass_is hi (t := t) (by omega)).2 v (by omega) v2
  omega
/-- Waiting within an hour is of no use: the loop's round. -/
theorem pass_step {a : Arc} {hi : Bool} {t u best : Int} (h60 : u % 60 = 0) (htu : t < u) 
    (h1 : ∃ v, t ≤ v ∧ v ≤ 1048576 ∧ best = v + a.tk hi v) (h2 : ∀ v, t ≤ v → v < u → v ≤ 1048576 → best ≤ v + a.tk hi v) (hu' : u ≤ 1048576) :
    (∃ v, t ≤ v ∧ v ≤ 1048576 ∧ min best (u + a.tk hi u) = v + a.tk hi v) ∧ ∀ v, t ≤ v → v < u + 60 → v ≤ 1048576 → min best (u + a.tk hi u) ≤ v + a.tk hi v := by
  refine ⟨?_, fun v v1 v2 v3 => ?_⟩
  · by_cases c : best ≤ u + a.tk hi u
    · rw [Int.min_eq_left c]; exact h1
    · rw [Int.min_eq_right (by omega)]; exact ⟨u, by omega, hu', rfl⟩
  · by_cases c : v < u
    · exact Int.le_trans (Int.min_le_left _ _) (h2 v v1 c v3)
    · have : a.tk hi v = a.tk hi u := a.tk_same hi (by omega)
      exact Int.le_trans (Int.min_le_right _ _) (by omega)
theorem pass_first {a : Arc} {hi : Bool} {t : Int} (ht' : t ≤ 1048576) :
    (∃ v, t ≤ v ∧ v ≤ 1048576 ∧ t + a.tk hi t = v + a.tk hi v) ∧ ∀ v, t ≤ v → v < (t / 60 + 1) * 60 → v ≤ 1048576 → t + a.tk hi t ≤ v + a.tk hi v := by
  refine ⟨⟨t, by omega, ht', rfl⟩, fun v v1 v2 _ => ?_⟩
  have : a.tk hi v = a.tk hi t := a.tk_same hi (by omega)
  omega
theorem pass_done {a : Arc} (hr : a.right) {hi : Bool} {t u best : Int} (ht : t ≤ 1048576) 
    (h1 : ∃ v, t ≤ v ∧ v ≤ 1048576 ∧ best = v + a.tk hi v) (h2 : ∀ v, t ≤ v → v < u → v ≤ 1048576 → best ≤ v + a.tk hi v) (h : best ≤ u ∨ 1048576 < u) :
    a.pass hi t = best := by
  refine Arc.pass_eq ht ⟨h1, fun v v1 v2 => ?_⟩
  by_cases c : v < u
  · exact h2 v v1 c v2
  · have := (a.tk_bd hr hi v).1
    omega

/-- The latest time from which one passes by some time. -/
def IsLast (a : Arc) (hi : Bool) (b l : Int) : Prop :=
  -1 ≤ l ∧ l ≤ 1048576 ∧ (0 ≤ l → a.pass hi l ≤ b) ∧ ∀ t, l < t → t ≤ 1048576 → b < a.pass hi t
theorem IsLast.unique {a : Arc} {hi : Bool} {b l m : Int} (h : IsLast a hi b l) (k : IsLast a hi b m) : l = m := by
  obtain ⟨a1, a2, a3, a4⟩ := h
  obtain ⟨b1, b2, b3, b4⟩ := k
  by_cases c : l < m
  · have := a4 m c b2; have := b3 (by omega); omega
  · by_cases d : m < l
    · have := b4 l d a2; have := a3 (by omega); omega
    · omega
/-- The latest time as a function: downwards from n - 1. -/
def lastTo (p : Nat → Bool) : Nat → Int
  | 0 => -1
  | n + 1 => if p n then n else lastTo p n
theorem lastTo_spec (p : Nat → Bool) : ∀ n : Nat, -1 ≤ lastTo p n ∧ lastTo p n < n ∧ (0 ≤ lastTo p n → p (lastTo p n).toNat = true) ∧ ∀ k : Nat, lastTo p n < k → k < n → p k = false
  | 0 => ⟨by simp [lastTo], by simp [lastTo], by simp [lastTo], fun _ _ h => by omega⟩
  | n + 1 => by
    obtain ⟨a, b, c, d⟩ := lastTo_spec p n
    by_cases h : p n = true
    · have e : lastTo p (n + 1) = n := by simp [lastTo, h]
      rw [e]
      exact ⟨by omega, by omega, fun _ => by simpa using h, fun k k1 k2 => by omega⟩
    · have e : lastTo p (n + 1) = lastTo p n := by simp [lastTo, h]
      rw [e]
      refine ⟨a, by omega, c, fun k k1 k2 => ?_⟩
      by_cases e : k = n
      · subst e; simpa using h
      · exact d k k1 (by omega)
def Arc.last (a : Arc) (hi : Bool) (b : Int) : Int := lastTo (fun n => decide (a.pass hi n ≤ b)) 1048577
theorem Arc.last_is (a : Arc) (hi : Bool) (b : Int) : IsLast a hi b (a.last hi b) := by
  obtain ⟨p, q, r, s⟩ := lastTo_spec (fun n => decide (a.pass hi n ≤ b)) 1048577
  refine ⟨p, ?_, fun h => ?_, fun t t1 t2 => ?_⟩
  · have : a.last hi b < 1048577 := q
    omega
  · have e : ((lastTo (fun n => decide (a.pass hi n ≤ b)) 1048577).toNat : Int) = lastTo (fun n => decide (a.pass hi n ≤ b)) 1048577 := Int.toNat_of_nonneg h
    have := r h
    simp only [decide_eq_true_eq] at this
    rw [e] at this
    exact this
  · have t0 : 0 ≤ t := by have : -1 ≤ a.last hi b := p; omega
    have t3 := s t.toNat (by rw [Int.toNat_of_nonneg t0]; exact t1) (by omega)
    simp only [decide_eq_false_iff_not, Int.not_le] at t3
    rw [Int.toNat_of_nonneg t0] at t3
    exact t3
theorem Arc.last_eq {a : Arc} {hi : Bool} {b l : Int} (h : IsLast a hi b l) : a.last hi b = l := (a.last_is hi b).unique h
theorem Arc.last_le {a : Arc} (hr : a.right) (hi : Bool) (b : Int) : a.last hi b ≤ max b (-1) := by
  obtain ⟨p, q, r, _⟩ := a.last_is hi b
  by_cases h : 0 ≤ a.last hi b
  · have := r h
    have := (a.pass_bd hr hi q).1
    omega
  · omega
/-- One arrives at most by b exactly if one begins at most at the latest time. -/
theorem Arc.last_iff {a : Arc} (hi : Bool) (b : Int) {t : Int} (h0 : 0 ≤ t) (ht : t ≤ 1048576) : a.pass hi t ≤ b ↔ t ≤ a.last hi b := by
  obtain ⟨p, q, r, s⟩ := a.last_is hi b
  constructor
  · intro h
    by_cases c : t ≤ a.last hi b
    · exact c
    · have := s t (by omega) ht; omega
  · intro h
    exact Int.le_trans (Arc.pass_mono hi h q) (r (by omega))
/-- The binary search ends. -/
theorem last_found {a : Arc} {hi : Bool} {b l : Int} (h0 : -1 ≤ l) (h1 : l ≤ 1048576) (h2 : 0 ≤ l → a.pass hi l ≤ b) (h3 : l < 1048576 → b < a.pass hi (l + 1)) : a.last hi b = l := by
  refine Arc.last_eq ⟨h0, h1, h2, fun t t1 t2 => ?_⟩
  exact Int.lt_of_lt_of_le (h3 (by omega)) (Arc.pass_mono hi (by omega) t2)

/-- The bounds with which the binary search begins. -/
theorem last_start {a : Arc} (hr : a.right) (hi : Bool) (b u : Int) (hu : u = b ∨ u = 1048576) : u < 1048576 → b < a.pass hi (u + 1) := by
  intro h
  have := (a.pass_bd hr hi (t := u + 1) (by omega)).1
  omega

/-! What the exported functions return. -/
def isTime (t : Int) : Prop := 0 ≤ t ∧ t ≤ 1048576
instance (t : Int) : Decidable (isTime t) := by unfold isTime; infer_instance
def timeB (t : Int) : Bool := decide (isTime t)
def Arc.validB (a : Arc) (t : Int) : Bool := decide (isTime t ∧ a.right)
theorem Arc.validB_true {a : Arc} {t : Int} (h : a.validB t = true) : isTime t ∧ a.right := of_decide_eq_true h
theorem Arc.validB_yes {a : Arc} {t : Int} (h : isTime t) : a.validB t = a.rightB := by unfold Arc.validB Arc.rightB; simp [h]
theorem Arc.validB_no {a : Arc} {t : Int} (h : ¬ isTime t) : a.validB t = false := decide_eq_false fun g => h g.1
def Arc.tookF (a : Arc) (hi : Bool) (t : Int) : Int := if a.validB t then a.tk hi t else -1
def Arc.passF (a : Arc) (hi : Bool) (t : Int) : Int := if a.validB t then a.pass hi t else -1
def Arc.lastF (a : Arc) (hi : Bool) (b : Int) : Int := if a.rightB then a.last hi b else -1
theorem Arc.tookF_yes {a : Arc} (hi : Bool) {t : Int} (h : a.right) (ht : isTime t) : a.tookF hi t = a.tk hi t := if_pos (decide_eq_true ⟨ht, h⟩)
theorem Arc.passF_yes {a : Arc} (hi : Bool) {t : Int} (h : a.right) (ht : isTime t) : a.passF hi t = a.pass hi t := if_pos (decide_eq_true ⟨ht, h⟩)
theorem Arc.lastF_yes {a : Arc} (hi : Bool) (b : Int) (h : a.right) : a.lastF hi b = a.last hi b := if_pos (decide_eq_true h)
theorem Arc.lastF_neg {a : Arc} (hi : Bool) {b : Int} (hb : b < 0) : a.lastF hi b = -1 := by
  unfold Arc.lastF
  split
  · rename_i h
    have := a.last_le (of_decide_eq_true h) hi b
    have := (a.last_is hi b).1
    omega
  · rfl

/-! The laws. -/
theorem Arc.validB_mk {a : Arc} {t : Int} (h : a.right) (h0 : 0 ≤ t) (h1 : t ≤ 1048576) : a.validB t = true := decide_eq_true ⟨⟨h0, h1⟩, h⟩
/-- One day later everything is the same, one day later. -/
theorem pass_day {a : Arc} (hr : a.right) (hi : Bool) {t : Int} (ht : t ≤ 1045696) : a.pass hi (t + 1440) = a.pass hi t + 1440 := by
  obtain ⟨⟨u, u1, u2, u3⟩, h⟩ := a.pass_is hi (t := t) (by omega)
  have b := (a.pass_bd hr hi (t := t) (by omega)).2
  have c := (a.tk_bd hr hi t).2
  have d := (a.tk_bd hr hi u).1
  refine Arc.pass_eq (by omega) ⟨⟨u + 1440, by omega, by omega, by rw [Arc.tk_day]; omega⟩, fun v v1 v2 => ?_⟩
  have e := h (v - 1440) (by omega) (by omega)
  have f := a.tk_day hi (v - 1440)
  rw [Int.sub_add_cancel] at f
  omega
/-- A round of the law: the beginning of the k-th next hour. -/
theorem hours_step {a : Arc} {hi : Bool} {t best : Int} {k : Nat} (hk : 1 ≤ k)
    (h1 : ∃ v, t ≤ v ∧ v ≤ 1048576 ∧ best = v + a.tk hi v) (h2 : ∀ v, t ≤ v → v < (t / 60 + k) * 60 → v ≤ 1048576 → best ≤ v + a.tk hi v) :
    let best' := if (t / 60 + k) * 60 ≤ 1048576 then (if (t / 60 + k) * 60 + a.tk hi ((t / 60 + k) * 60) < best then (t / 60 + k) * 60 + a.tk hi ((t / 60 + k) * 60) else best) else best
    (∃ v, t ≤ v ∧ v ≤ 1048576 ∧ best' = v + a.tk hi v) ∧ ∀ v, t ≤ v → v < (t / 60 + ((k + 1 : Nat) : Int)) * 60 → v ≤ 1048576 → best' ≤ v + a.tk hi v := by
  intro best'
  by_cases c : (t / 60 + k) * 60 ≤ 1048576
  · have e : best' = min best ((t / 60 + k) * 60 + a.tk hi ((t / 60 + k) * 60)) := by rw [minIf]; exact if_pos c
    rw [e]
    have := pass_step (a := a) (hi := hi) (t := t) (u := (t / 60 + k) * 60) (by omega) (by omega) h1 h2 c
    exact ⟨this.1, fun v v1 v2 v3 => this.2 v v1 (by omega) v3⟩
  · have e : best' = best := if_neg c
    rw [e]
    exact ⟨h1, fun v v1 v2 v3 => h2 v v1 (by omega) v3⟩
def Arc.few (a : Arc) : Bool := decide (a.L.length ≤ 40) && decide (a.H.length ≤ 40)
/-- Smaller numbers: nobody arrives later, or must begin earlier. -/
theorem pass_le {a b : Arc} {hi hj : Bool} (h : ∀ u, a.tk hi u ≤ b.tk hj u) {t : Int} (ht : t ≤ 1048576) : a.pass hi t ≤ b.pass hj t := by
  obtain ⟨⟨u, u1, u2, u3⟩, _⟩ := b.pass_is hj ht
  have := (a.pass_is hi ht).2 u u1 u2
  have := h u
  omega
theorem last_le_of {a b : Arc} {hi hj : Bool} (h : ∀ u, a.tk hi u ≤ b.tk hj u) (x : Int) : b.last hj x ≤ a.last hi x := by
  obtain ⟨p, q, r, s⟩ := b.last_is hj x
  obtain ⟨p', q', r', s'⟩ := a.last_is hi x
  by_cases c : 0 ≤ b.last hj x
  · have := r c
    have := pass_le h q
    exact (a.last_iff hi x c q).1 (by omega)
  · omega
/-- One number less for some hour. -/
def Arc.less (a : Arc) (k : Nat) : Arc := ⟨a.f, a.t, a.L, a.H.set k (a.L.getD k 0)⟩
theorem less_get {a : Arc} (h : a.right) {k : Nat} (hk : k < 24) (i : Nat) : (a.less k).H.getD i 0 = if i = k then a.L.getD k 0 else a.H.getD i 0 := by
  obtain ⟨_, _, h1, h2, _⟩ := h
  unfold Arc.less
  simp only [List.getD_eq_getElem?_getD, List.getElem?_set]
  by_cases e : k = i
  · subst e; simp [h2, hk]
  · rw [if_neg e, if_neg (Ne.symm e)]
theorem less_right {a : Arc} (h : a.right) {k : Nat} (hk : k < 24) : (a.less k).right := by
  have g := less_get h hk
  obtain ⟨h3, h4, h1, h2, h5⟩ := h
  refine ⟨h3, h4, h1, by simpa [Arc.less] using h2, fun i hi => ?_⟩
  obtain ⟨x, y, z⟩ := h5 i hi
  unfold ok1
  rw [g i]
  show 0 ≤ a.L.getD i 0 ∧ a.L.getD i 0 ≤ _ ∧ _
  split
  · rename_i e; subst e; exact ⟨x, Int.le_refl _, by omega⟩
  · exact ⟨x, y, z⟩
theorem less_tk {a : Arc} (h : a.right) {k : Nat} (hk : k < 24) (u : Int) : (a.less k).tk true u ≤ a.tk true u ∧ a.tk false u ≤ (a.less k).tk true u := by
  have g := less_get h hk (hour u)
  obtain ⟨_, _, _, _, h5⟩ := h
  obtain ⟨x, y, z⟩ := h5 (hour u) (hour_lt u)
  have e1 : (a.less k).tk true u = (a.less k).H.getD (hour u) 0 := rfl
  have e2 : a.tk true u = a.H.getD (hour u) 0 := rfl
  have e3 : a.tk false u = a.L.getD (hour u) 0 := rfl
  rw [e1, e2, e3, g]
  split
  · rename_i e; rw [← e]; exact ⟨y, Int.le_refl _⟩
  · exact ⟨Int.le_refl _, y⟩
end Go.Proofs.Ytbbjopgneophnaa
