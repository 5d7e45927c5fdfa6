/- The plain mathematics of layer 40 (stock): stocks that are right; no program in sight. -/
import Init
namespace Go.Proofs.Ytbbpiihbhdagnaa
set_option linter.unusedSimpArgs false
set_option linter.unusedVariables false
abbrev DLoan := Int × Int × Int
abbrev DStk := Int × Int × List DLoan
/-- A loan that does not fit. -/
def badL (free last : Int) (l : DLoan) : Prop := ((((l.1 ≤ last ∨ 12 ≤ l.1) ∨ l.2.1 < 1) ∨ free < l.2.1) ∨ l.2.2 < 0) ∨ l.2.1 < l.2.2
instance (free last : Int) (l : DLoan) : Decidable (badL free last l) := by unfold badL; infer_instance
def okL : Int → Int → List DLoan → Bool
  | _, _, [] => true
  | free, last, l :: r => !decide (badL free last l) && okL (free - l.2.1) l.1 r
def badH (t u : Int) : Prop := ((t < 0 ∨ 1000000000000000 < t) ∨ u < 0) ∨ t < u
instance (t u : Int) : Decidable (badH t u) := by unfold badH; infer_instance
def rightS (s : DStk) : Bool := !decide (badH s.1 s.2.1) && okL (s.1 - s.2.1) (-1) s.2.2
def sumU : List DLoan → Int
  | [] => 0
  | l :: r => l.2.1 + sumU r
def freeS (s : DStk) : Int := if rightS s then s.1 - s.2.1 - sumU s.2.2 else 0
def leftS (s : DStk) : Int := if rightS s then s.1 - s.2.1 - sumU s.2.2 else -1
theorem okL_drop {free last : Int} {L : List DLoan} {j : Nat} (h : j < L.length) : okL free last (L.drop j) = (!decide (badL free last (L.getD j (0, 0, 0))) && okL (free - (L.getD j (0, 0, 0)).2.1) (L.getD j (0, 0, 0)).1 (L.drop (j + 1))) := by
  rw [List.drop_eq_getElem_cons h]
  have : L.getD j (0, 0, 0) = L[j] := by simp [List.getD, h]
  rw [this]; rfl
theorem sumU_append : ∀ (a b : List DLoan), sumU (a ++ b) = sumU a + sumU b
  | [], b => by simp [sumU]
  | x :: r, b => by
    show x.2.1 + sumU (r ++ b) = (x.2.1 + sumU r) + sumU b
    rw [sumU_append r b]; omega
theorem sumU_take {L : List DLoan} {j : Nat} (h : j < L.length) : sumU (L.take (j + 1)) = sumU (L.take j) + (L.getD j (0, 0, 0)).2.1 := by
  rw [List.take_succ_eq_append_getElem h, sumU_append]
  have : L.getD j (0, 0, 0) = L[j] := by simp [List.getD, h]
  rw [this]; simp [sumU]
theorem okL_sum : ∀ {L : List DLoan} {free last : Int}, okL free last L = true → 0 ≤ free → ∀ j, 0 ≤ sumU (L.take j) ∧ sumU (L.take j) ≤ free
  | [], free, last, _, h0, j => by simp [sumU]; exact h0
  | l :: r, free, last, h, h0, 0 => by simp [sumU]; exact h0
  | l :: r, free, last, h, h0, j + 1 => by
    unfold okL at h
    simp only [Bool.and_eq_true, Bool.not_eq_true', decide_eq_false_iff_not] at h
    have h1 := h.1
    unfold badL at h1
    have := okL_sum h.2 (by omega) j
    rw [List.take_succ_cons]
    show 0 ≤ l.2.1 + sumU (r.take j) ∧ l.2.1 + sumU (r.take j) ≤ free
    omega
theorem okL_len : ∀ {L : List DLoan} {free last : Int}, okL free last L = true → L = [] ∨ (L.length : Int) ≤ 11 - last
  | [], _, _, _ => .inl rfl
  | l :: r, free, last, h => by
    unfold okL at h
    simp only [Bool.and_eq_true, Bool.not_eq_true', decide_eq_false_iff_not] at h
    have h1 := h.1
    unfold badL at h1
    right
    rw [List.length_cons]
    rcases okL_len h.2 with e | e
    · subst e; simp; omega
    · omega
theorem right_spec {s : DStk} (h : rightS s = true) : ¬ badH s.1 s.2.1 ∧ okL (s.1 - s.2.1) (-1) s.2.2 = true := by
  unfold rightS at h
  simpa using h
theorem right_len {s : DStk} (h : rightS s = true) : s.2.2.length ≤ 12 := by
  rcases okL_len (right_spec h).2 with e | e
  · rw [e]; simp
  · omega
theorem right_sum {s : DStk} (h : rightS s = true) (j : Nat) : 0 ≤ sumU (s.2.2.take j) ∧ sumU (s.2.2.take j) ≤ s.1 - s.2.1 := by
  have h1 := (right_spec h).1
  unfold badH at h1
  exact okL_sum (right_spec h).2 (by omega) j
end Go.Proofs.Ytbbpiihbhdagnaa
