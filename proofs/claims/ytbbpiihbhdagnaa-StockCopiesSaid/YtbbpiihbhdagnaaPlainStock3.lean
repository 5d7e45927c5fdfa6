/- The plain mathematics of layer 40 (stock), 3: what is done to a stock; no program in sight. -/
import Derived.Test.YtbbpiihbhdagnaaPlainStock2
namespace Go.Proofs.Ytbbpiihbhdagnaa
set_option linter.unusedSimpArgs false
set_option linter.unusedVariables false
abbrev DOp := Int × Int × Int
def takeF (s : DStk) (v : Int) : DStk × Int :=
  if fitsF s 0 v = false then (s, 1) else if freeS s < v then (s, 21) else ((s.1, s.2.1 + v, s.2.2), 0)
/-- The loan at a place holds so many units more. -/
def addU (L : List DLoan) (i : Nat) (v : Int) : List DLoan := L.set i ((L.getD i (0, 0, 0)).1, (L.getD i (0, 0, 0)).2.1 + v, (L.getD i (0, 0, 0)).2.2)
def addD (L : List DLoan) (i : Nat) (v : Int) : List DLoan := L.set i ((L.getD i (0, 0, 0)).1, (L.getD i (0, 0, 0)).2.1, (L.getD i (0, 0, 0)).2.2 + v)
def lendL (q v : Int) (L : List DLoan) : List DLoan := if q ∈ phones L then addU L (posL q L) v else L.take (posL q L) ++ [(q, v, 0)] ++ L.drop (posL q L)
def lendF (s : DStk) (q v : Int) : DStk × Int :=
  if fitsF s q v = false then (s, 1) else if freeS s < v then (s, 21) else ((s.1, s.2.1, lendL q v s.2.2), 0)
def useF (s : DStk) (q v : Int) : DStk × Int :=
  if fitsF s q v = false then (s, 1) else if q ∉ phones s.2.2 then (s, 4)
  else if (s.2.2.getD (posL q s.2.2) (0, 0, 0)).2.1 - (s.2.2.getD (posL q s.2.2) (0, 0, 0)).2.2 < v then (s, 21) else ((s.1, s.2.1, addD s.2.2 (posL q s.2.2) v), 0)
def giveF (s : DStk) (q : Int) : DStk × Int :=
  if fitsF s q 1 = false then (s, 1) else if q ∉ phones s.2.2 then (s, 4)
  else ((s.1, s.2.1 + (s.2.2.getD (posL q s.2.2) (0, 0, 0)).2.2, s.2.2.take (posL q s.2.2) ++ s.2.2.drop (posL q s.2.2 + 1)), 0)
theorem fits_spec {s : DStk} {q v : Int} (h : fitsF s q v = true) : rightS s = true ∧ (0 ≤ q ∧ q < 12) ∧ 1 ≤ v ∧ v ≤ 1000000000000000 := by
  unfold fitsF at h
  simp only [Bool.and_eq_true, decide_eq_true_eq] at h
  exact ⟨h.1.1.1.1, by omega, by omega⟩
/-- What a loan of a right stock holds. -/
theorem right_loan {s : DStk} (h : rightS s = true) {j : Nat} (hj : j < s.2.2.length) : ¬ badH s.1 s.2.1 ∧ 1 ≤ (s.2.2.getD j (0, 0, 0)).2.1 ∧ (s.2.2.getD j (0, 0, 0)).2.1 ≤ 1000000000000000 ∧ 0 ≤ (s.2.2.getD j (0, 0, 0)).2.2 ∧ (s.2.2.getD j (0, 0, 0)).2.2 ≤ (s.2.2.getD j (0, 0, 0)).2.1 := by
  have h1 := (right_spec h).1
  refine ⟨h1, ?_⟩
  unfold badH at h1
  have : ∀ (L : List DLoan) (free last : Int) (j : Nat), okL free last L = true → free ≤ 1000000000000000 → j < L.length → 1 ≤ (L.getD j (0, 0, 0)).2.1 ∧ (L.getD j (0, 0, 0)).2.1 ≤ 1000000000000000 ∧ 0 ≤ (L.getD j (0, 0, 0)).2.2 ∧ (L.getD j (0, 0, 0)).2.2 ≤ (L.getD j (0, 0, 0)).2.1 := by
    intro L
    induction L with
    | nil => intro free last j _ _ h; simp at h
    | cons l r ih =>
      intro free last j h hf hj
      unfold okL at h
      simp only [Bool.and_eq_true, Bool.not_eq_true', decide_eq_false_iff_not] at h
      have h1 := h.1
      unfold badL at h1
      cases j with
      | zero =>
        rw [show (l :: r).getD 0 (0, 0, 0) = l from rfl]
        omega
      | succ j =>
        rw [show (l :: r).getD (j + 1) (0, 0, 0) = r.getD j (0, 0, 0) from rfl]
        exact ih (free - l.2.1) l.1 j h.2 (by omega) (by simpa using hj)
  exact this s.2.2 (s.1 - s.2.1) (-1) j (right_spec h).2 (by omega) hj
theorem free_le {s : DStk} (h : rightS s = true) : freeS s ≤ s.1 - s.2.1 := by
  unfold freeS
  rw [if_pos h]
  have := right_sum h s.2.2.length
  rw [List.take_length] at this
  omega
theorem pos_lt {L : List DLoan} {q : Int} (hp : (phones L).Pairwise (· < ·)) (hq : q ∈ phones L) : posL q L < L.length := by
  have := (mem_pos hp).1 hq
  rw [phones_len] at this
  exact this.1
theorem pos_le (q : Int) (L : List DLoan) : posL q L ≤ L.length := by
  have := posF_le q (phones L)
  rw [phones_len] at this
  exact this
theorem mid_getD {a b : List DLoan} {x : DLoan} {i : Nat} (h : i = a.length) : (a ++ [x] ++ b).getD i (0, 0, 0) = x := by
  subst h; simp [List.getD]
theorem mid_set {a b : List DLoan} {x y : DLoan} {i : Nat} (h : i = a.length) : (a ++ [x] ++ b).set i y = a ++ [y] ++ b := by
  subst h; simp
end Go.Proofs.Ytbbpiihbhdagnaa
