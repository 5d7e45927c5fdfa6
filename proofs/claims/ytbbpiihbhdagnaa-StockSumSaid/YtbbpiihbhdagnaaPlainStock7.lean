/- The plain laws of layer 40 (stock), 7: with what is done only the phone that is named has another loan, and all is what it was; no program in sight. -/
import Derived.Test.YtbbpiihbhdagnaaPlainStock6
namespace Go.Proofs.Ytbbpiihbhdagnaa
set_option linter.unusedSimpArgs false
set_option linter.unusedVariables false
theorem loan_take {s : DStk} (v p : Int) : loanF p (takeF s v).1.2.2 = loanF p s.2.2 := by
  rw [takeF_eq]
  dsimp only
  split <;> rfl
theorem loan_use {s : DStk} {q p : Int} (v : Int) (h : p ≠ q) : loanF p (useF s q v).1.2.2 = loanF p s.2.2 := by
  rw [useF_eq]
  dsimp only
  split
  · rename_i c
    have hp := right_pair (use_ok c).1
    have hi := pos_lt hp (use_ok c).2
    have hq := pos_phone hp (use_ok c).2
    exact loan_set hi rfl (by dsimp only; rw [hq]; exact fun z => h z.symm)
  · rfl
theorem loan_lend {s : DStk} {q p : Int} (v : Int) (h : p ≠ q) : loanF p (lendF s q v).1.2.2 = loanF p s.2.2 := by
  unfold lendF
  split
  · rfl
  rename_i c1
  split
  · rfl
  have hr := (fits_spec (show fitsF s q v = true by simpa using c1)).1
  have hp := right_pair hr
  show loanF p (lendL q v s.2.2) = _
  unfold lendL
  split
  · rename_i hm
    have hi := pos_lt hp hm
    have hq := pos_phone hp hm
    exact loan_set hi rfl (by dsimp only; rw [hq]; exact fun z => h z.symm)
  · rw [loan_mid (by exact fun z => h z.symm), List.take_append_drop]
theorem loan_give {s : DStk} {q p : Int} (h : p ≠ q) : loanF p (giveF s q).1.2.2 = loanF p s.2.2 := by
  unfold giveF
  split
  · rfl
  rename_i c1
  split
  · rfl
  rename_i hm
  have hm := Classical.byContradiction hm
  have hr := (fits_spec (show fitsF s q 1 = true by simpa using c1)).1
  have hp := right_pair hr
  have hi := pos_lt hp hm
  have hq := pos_phone hp hm
  dsimp only
  conv => rhs; rw [split_at hi]
  rw [loan_mid (by rw [hq]; exact fun z => h z.symm)]
/-- What is free, what was promised, and what phones hold and have not promised. -/
def sumH : List DLoan → Int
  | [] => 0
  | l :: r => (l.2.1 - l.2.2) + sumH r
theorem sumH_eq : ∀ L : List DLoan, sumH L = sumU L - sumD L
  | [] => rfl
  | l :: r => by
    show (l.2.1 - l.2.2) + sumH r = (l.2.1 + sumU r) - (l.2.2 + sumD r)
    rw [sumH_eq r]; omega
theorem sumH_append : ∀ (a b : List DLoan), sumH (a ++ b) = sumH a + sumH b
  | [], b => by simp [sumH]
  | x :: r, b => by
    show (x.2.1 - x.2.2) + sumH (r ++ b) = ((x.2.1 - x.2.2) + sumH r) + sumH b
    rw [sumH_append r b]; omega
theorem sumH_take {L : List DLoan} {j : Nat} (h : j < L.length) : sumH (L.take (j + 1)) = sumH (L.take j) + ((L.getD j (0, 0, 0)).2.1 - (L.getD j (0, 0, 0)).2.2) := by
  rw [List.take_succ_eq_append_getElem h, sumH_append]
  have : L.getD j (0, 0, 0) = L[j] := by simp [List.getD, h]
  rw [this]; simp [sumH]
theorem all_right {s : DStk} (h : rightS s = true) : freeS s + promF s + sumH s.2.2 = s.1 := by
  unfold freeS promF
  rw [if_pos h, sumH_eq]
  omega
theorem hold_to {s : DStk} (h : rightS s = true) (j : Nat) : 0 ≤ sumH (s.2.2.take j) ∧ sumH (s.2.2.take j) ≤ s.1 - s.2.1 := by
  have h1 := prom_to h j
  have h2 := right_sum h j
  have hl := (right_iff.1 h).2
  have : ∀ L : List DLoan, (∀ l ∈ L, 1 ≤ l.2.1 ∧ 0 ≤ l.2.2 ∧ l.2.2 ≤ l.2.1) → 0 ≤ sumH L := by
    intro L
    induction L with
    | nil => intro _; exact Int.le_refl _
    | cons l r ih =>
      intro hh
      have h1 := hh l (by simp)
      have h2 := ih fun x hx => hh x (by simp [hx])
      show 0 ≤ (l.2.1 - l.2.2) + sumH r
      omega
  have h3 := this (s.2.2.take j) fun l c => hl.each l (List.mem_of_mem_take c)
  have h4 := sumH_eq (s.2.2.take j)
  omega
/-- What an error means. -/
theorem take_err {s : DStk} {v : Int} (h : (takeF s v).2 ≠ 0) : (takeF s v).1 = s ∧ ((takeF s v).2 = 1 ∨ rightS s = true) := by
  rw [takeF_eq] at h ⊢
  dsimp only at h ⊢
  rw [if_neg h]
  refine ⟨rfl, ?_⟩
  unfold takeC
  split
  · exact .inl rfl
  · rename_i c; exact .inr (fits_spec (by simpa using c)).1
theorem use_err {s : DStk} {q v : Int} (h : (useF s q v).2 ≠ 0) : (useF s q v).1 = s ∧ ((useF s q v).2 = 1 ∨ rightS s = true) := by
  rw [useF_eq] at h ⊢
  dsimp only at h ⊢
  rw [if_neg h]
  refine ⟨rfl, ?_⟩
  unfold useC
  split
  · exact .inl rfl
  · rename_i c; exact .inr (fits_spec (by simpa using c)).1
theorem lend_err {s : DStk} {q v : Int} (h : (lendF s q v).2 ≠ 0) : (lendF s q v).1 = s ∧ ((lendF s q v).2 = 1 ∨ rightS s = true) := by
  unfold lendF at h ⊢
  split
  · exact ⟨rfl, .inl rfl⟩
  rename_i c1
  split
  · exact ⟨rfl, .inr (fits_spec (by simpa using c1)).1⟩
  · rename_i c2
    rw [if_neg c1, if_neg c2] at h
    exact absurd rfl h
theorem give_err {s : DStk} {q : Int} (h : (giveF s q).2 ≠ 0) : (giveF s q).1 = s ∧ ((giveF s q).2 = 1 ∨ rightS s = true) := by
  unfold giveF at h ⊢
  split
  · exact ⟨rfl, .inl rfl⟩
  rename_i c1
  split
  · exact ⟨rfl, .inr (fits_spec (by simpa using c1)).1⟩
  · rename_i c2
    rw [if_neg c1, if_neg c2] at h
    exact absurd rfl h
theorem take_okR {s : DStk} {v : Int} (h : (takeF s v).2 = 0) : rightS s = true := by
  rw [takeF_eq] at h
  dsimp only at h
  unfold takeC at h
  split at h
  · exact absurd h (by decide)
  · rename_i c; exact (fits_spec (by simpa using c)).1
theorem use_okR {s : DStk} {q v : Int} (h : (useF s q v).2 = 0) : rightS s = true := by
  rw [useF_eq] at h
  exact (use_ok h).1
theorem lend_okR {s : DStk} {q v : Int} (h : (lendF s q v).2 = 0) : rightS s = true := by
  unfold lendF at h
  split at h
  · exact absurd (show (1 : Int) = 0 from h) (by decide)
  · rename_i c; exact (fits_spec (by simpa using c)).1
theorem give_okR {s : DStk} {q : Int} (h : (giveF s q).2 = 0) : rightS s = true := by
  unfold giveF at h
  split at h
  · exact absurd (show (1 : Int) = 0 from h) (by decide)
  · rename_i c; exact (fits_spec (by simpa using c)).1
end Go.Proofs.Ytbbpiihbhdagnaa
