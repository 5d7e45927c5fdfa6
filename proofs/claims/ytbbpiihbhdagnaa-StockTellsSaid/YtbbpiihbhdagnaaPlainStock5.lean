/- The plain laws of layer 40 (stock): the reference's way to lend; no program in sight. -/
import Derived.Test.YtbbpiihbhdagnaaPlainStock3
namespace Go.Proofs.Ytbbpiihbhdagnaa
set_option linter.unusedSimpArgs false
set_option linter.unusedVariables false
/-- What the reference appends, with what is put already. -/
def lendR (q v : Int) : Bool → List DLoan → List DLoan
  | put, [] => if put then [] else [(q, v, 0)]
  | put, l :: r => (if l.1 > q ∧ put = false then [(q, v, 0)] else []) ++ [if l.1 = q then (l.1, l.2.1 + v, l.2.2) else l] ++ lendR q v (put || decide (l.1 > q) || decide (l.1 = q)) r
theorem lendR_put {q v : Int} : ∀ {L : List DLoan}, (∀ x ∈ phones L, q < x) → lendR q v true L = L
  | [], _ => rfl
  | l :: r, h => by
    have h1 := h l.1 (by unfold phones; simp)
    unfold lendR
    rw [if_neg (by simp), if_neg (by omega), Bool.true_or, Bool.true_or, lendR_put fun x hx => h x (by unfold phones at hx ⊢; rw [List.map_cons]; exact List.mem_cons_of_mem _ hx)]
    rfl
theorem posL_cons (q : Int) (l : DLoan) (r : List DLoan) : posL q (l :: r) = if l.1 < q then posL q r + 1 else 0 := rfl
theorem lendR_eq {q v : Int} : ∀ {L : List DLoan}, (phones L).Pairwise (· < ·) → lendR q v false L = lendL q v L
  | [], _ => by
    unfold lendL
    rw [if_neg (by unfold phones; simp)]
    rfl
  | l :: r, h => by
    have h' : (∀ x ∈ phones r, l.1 < x) ∧ (phones r).Pairwise (· < ·) := by
      unfold phones at h ⊢
      rw [List.map_cons, List.pairwise_cons] at h
      exact h
    have hm : q ∈ phones (l :: r) ↔ q = l.1 ∨ q ∈ phones r := by unfold phones; rw [List.map_cons, List.mem_cons]
    unfold lendR lendL
    rw [posL_cons]
    rcases Int.lt_trichotomy l.1 q with c | c | c
    · have ih := lendR_eq (q := q) (v := v) h'.2
      rw [if_neg (by omega), if_neg (by omega), if_pos c, decide_eq_false (show ¬ l.1 > q by omega), decide_eq_false (show ¬ l.1 = q by omega), Bool.or_false, Bool.or_false, ih]
      unfold lendL
      by_cases m : q ∈ phones r
      · rw [if_pos m, if_pos (hm.2 (.inr m))]
        rfl
      · rw [if_neg m, if_neg (fun z => by rcases hm.1 z with z | z; omega; exact m z)]
        rfl
    · have n1 : ¬ (l.1 > q ∧ false = false) := by omega
      have n2 : ¬ l.1 < q := by omega
      have n3 : q ∈ phones (l :: r) := hm.2 (.inl c.symm)
      rw [if_neg n1, if_pos c, if_pos n3, if_neg n2, decide_eq_true c, Bool.or_true, lendR_put (fun x hx => by have := h'.1 x hx; omega)]
      rfl
    · have n1 : l.1 > q ∧ false = false := ⟨c, rfl⟩
      have n2 : ¬ l.1 < q := by omega
      have n4 : ¬ l.1 = q := by omega
      have n3 : ¬ q ∈ phones (l :: r) := fun z => by
        rcases hm.1 z with z | z
        · omega
        · have := h'.1 q z; omega
      rw [if_pos n1, if_neg n4, if_neg n3, if_neg n2, decide_eq_true (show l.1 > q from c), Bool.or_true, Bool.true_or, lendR_put (fun x hx => by have := h'.1 x hx; omega)]
      rfl
end Go.Proofs.Ytbbpiihbhdagnaa
