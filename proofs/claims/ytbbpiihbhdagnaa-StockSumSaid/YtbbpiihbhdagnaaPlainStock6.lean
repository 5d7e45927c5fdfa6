/- The plain laws of layer 40 (stock), 6: two things that are done, in either order; what all is, and each phone's loan; no program in sight. -/
import Derived.Test.YtbbpiihbhdagnaaPlainStock4
namespace Go.Proofs.Ytbbpiihbhdagnaa
set_option linter.unusedSimpArgs false
set_option linter.unusedVariables false
/-- What one gets when a phone promises. -/
def useC (s : DStk) (q v : Int) : Int :=
  if fitsF s q v = false then 1 else if q ∉ phones s.2.2 then 4
  else if (s.2.2.getD (posL q s.2.2) (0, 0, 0)).2.1 - (s.2.2.getD (posL q s.2.2) (0, 0, 0)).2.2 < v then 21 else 0
theorem useF_eq (s : DStk) (q v : Int) : useF s q v = (if useC s q v = 0 then (s.1, s.2.1, addD s.2.2 (posL q s.2.2) v) else s, useC s q v) := by
  unfold useF useC
  split
  · rfl
  split
  · rfl
  split
  · rfl
  · rfl
theorem use_ok {s : DStk} {q v : Int} (h : useC s q v = 0) : rightS s = true ∧ q ∈ phones s.2.2 := by
  unfold useC at h
  split at h
  · exact absurd h (by decide)
  rename_i h1
  split at h
  · exact absurd h (by decide)
  rename_i h2
  exact ⟨(fits_spec (by simpa using h1)).1, Classical.byContradiction h2⟩
theorem phones_addD {L : List DLoan} {i : Nat} (h : i < L.length) (v : Int) : phones (addD L i v) = phones L := phones_set h rfl
theorem posL_addD {L : List DLoan} {i : Nat} (h : i < L.length) (q v : Int) : posL q (addD L i v) = posL q L := by unfold posL; rw [phones_addD h]
theorem sumU_addD {L : List DLoan} {i : Nat} (h : i < L.length) (v : Int) : sumU (addD L i v) = sumU L := by unfold addD; rw [sumU_set h]; dsimp only; omega
theorem addD_other {L : List DLoan} {i j : Nat} (h : i ≠ j) (v : Int) : (addD L i v).getD j (0, 0, 0) = L.getD j (0, 0, 0) := by
  unfold addD
  simp [List.getD, h]
theorem addD_comm {L : List DLoan} {i j : Nat} (h : i ≠ j) (v w : Int) : addD (addD L i v) j w = addD (addD L j w) i v := by
  have e1 : addD (addD L i v) j w = (addD L i v).set j ((L.getD j (0, 0, 0)).1, (L.getD j (0, 0, 0)).2.1, (L.getD j (0, 0, 0)).2.2 + w) := by
    conv => lhs; unfold addD
    rw [show (L.set i ((L.getD i (0, 0, 0)).1, (L.getD i (0, 0, 0)).2.1, (L.getD i (0, 0, 0)).2.2 + v)) = addD L i v from rfl, addD_other h]
  have e2 : addD (addD L j w) i v = (addD L j w).set i ((L.getD i (0, 0, 0)).1, (L.getD i (0, 0, 0)).2.1, (L.getD i (0, 0, 0)).2.2 + v) := by
    conv => lhs; unfold addD
    rw [show (L.set j ((L.getD j (0, 0, 0)).1, (L.getD j (0, 0, 0)).2.1, (L.getD j (0, 0, 0)).2.2 + w)) = addD L j w from rfl, addD_other (fun z => h z.symm)]
  rw [e1, e2]
  unfold addD
  exact List.set_comm _ _ h
theorem pos_ne {L : List DLoan} (hp : (phones L).Pairwise (· < ·)) {q o : Int} (hq : q ∈ phones L) (ho : o ∈ phones L) (h : q ≠ o) : posL q L ≠ posL o L := fun e => by
  have h1 := ((mem_pos hp).1 hq).2
  have h2 := ((mem_pos hp).1 ho).2
  unfold posL at e
  rw [e] at h1
  exact h (h1.symm.trans h2)
theorem fits_iff {s s' : DStk} (h : rightS s = true) (h' : rightS s' = true) (q v : Int) : fitsF s' q v = fitsF s q v := by unfold fitsF; rw [h, h']
theorem use_state {s : DStk} (h : rightS s = true) (q v : Int) : rightS (useF s q v).1 = true := (use_right h q v).1
/-- What one phone gets does not hang on what another one promises. -/
theorem useC_other {s : DStk} (h : rightS s = true) {q o : Int} (hq : q ≠ o) (v m : Int) : useC (useF s o m).1 q v = useC s q v := by
  have hr := use_state h o m
  rw [useF_eq] at hr ⊢
  by_cases c : useC s o m = 0
  · rw [if_pos c] at hr ⊢
    have ho := (use_ok c).2
    have hp := right_pair h
    have hi := pos_lt hp ho
    unfold useC
    rw [fits_iff h hr, phones_addD hi, posL_addD hi]
    split
    · rfl
    split
    · rfl
    rename_i h2
    rw [addD_other (fun z => pos_ne hp (Classical.byContradiction h2) ho hq z.symm)]
  · rw [if_neg c]
theorem use_comm {s : DStk} (h : rightS s = true) {q o : Int} (hq : q ≠ o) (v m : Int) :
    (useF s q v).2 = (useF (useF s o m).1 q v).2 ∧ (useF (useF s q v).1 o m).2 = (useF s o m).2 ∧ (useF (useF s q v).1 o m).1 = (useF (useF s o m).1 q v).1 := by
  have e1 := useC_other h hq v m
  have e2 := useC_other h (fun z => hq z.symm) m v
  have f1 : (useF (useF s o m).1 q v).2 = useC s q v := by rw [useF_eq (useF s o m).1]; exact e1
  have f2 : (useF (useF s q v).1 o m).2 = useC s o m := by rw [useF_eq (useF s q v).1]; exact e2
  refine ⟨by rw [f1, useF_eq], by rw [f2, useF_eq], ?_⟩
  rw [useF_eq (useF s q v).1, useF_eq (useF s o m).1]
  dsimp only
  rw [e1, e2, useF_eq s q v, useF_eq s o m]
  dsimp only
  by_cases c1 : useC s q v = 0
  · have hq' := (use_ok c1).2
    have i1 := pos_lt (right_pair h) hq'
    by_cases c2 : useC s o m = 0
    · have ho' := (use_ok c2).2
      have i2 := pos_lt (right_pair h) ho'
      simp only [if_pos c1, if_pos c2, posL_addD i1, posL_addD i2]
      rw [addD_comm (pos_ne (right_pair h) hq' ho' hq)]
    · simp only [if_pos c1, if_neg c2]
  · simp only [if_neg c1]
/-- What the site gets. -/
def takeC (s : DStk) (v : Int) : Int := if fitsF s 0 v = false then 1 else if freeS s < v then 21 else 0
theorem takeF_eq (s : DStk) (v : Int) : takeF s v = (if takeC s v = 0 then (s.1, s.2.1 + v, s.2.2) else s, takeC s v) := by
  unfold takeF takeC
  split
  · rfl
  split
  · rfl
  · rfl
theorem take_use {s : DStk} (h : rightS s = true) (q v m : Int) :
    (takeF (useF s q v).1 m).2 = (takeF s m).2 ∧ (useF (takeF s m).1 q v).2 = (useF s q v).2 ∧ (takeF (useF s q v).1 m).1 = (useF (takeF s m).1 q v).1 := by
  have hr := use_state h q v
  have ht := (take_right h m).1
  have e1 : takeC (useF s q v).1 m = takeC s m := by
    unfold takeC
    rw [fits_iff h hr]
    have : freeS (useF s q v).1 = freeS s := by
      unfold freeS
      rw [if_pos h, if_pos hr, useF_eq]
      dsimp only
      split
      · rename_i c
        dsimp only
        rw [sumU_addD (pos_lt (right_pair h) (use_ok c).2)]
      · rfl
    rw [this]
  have e2 : useC (takeF s m).1 q v = useC s q v := by
    unfold useC
    rw [fits_iff h ht, takeF_eq]
    dsimp only
    split
    · rfl
    · split <;> rfl
  refine ⟨by rw [takeF_eq, takeF_eq]; exact e1, by rw [useF_eq, useF_eq]; exact e2, ?_⟩
  rw [takeF_eq (useF s q v).1, useF_eq (takeF s m).1]
  dsimp only
  rw [e1, e2, takeF_eq s m, useF_eq s q v]
  dsimp only
  by_cases c1 : takeC s m = 0
  · by_cases c2 : useC s q v = 0
    · simp only [if_pos c1, if_pos c2]
    · simp only [if_pos c1, if_neg c2]
  · by_cases c2 : useC s q v = 0
    · simp only [if_neg c1, if_pos c2]
    · simp only [if_neg c1, if_neg c2]
/-- The loan of a phone, or a zero one. -/
def loanF (p : Int) : List DLoan → DLoan
  | [] => (0, 0, 0)
  | l :: r => if l.1 = p then l else loanF p r
theorem loan_app {p : Int} : ∀ {a b c : List DLoan}, loanF p b = loanF p c → loanF p (a ++ b) = loanF p (a ++ c)
  | [], b, c, h => h
  | x :: a, b, c, h => by
    show (if x.1 = p then x else loanF p (a ++ b)) = (if x.1 = p then x else loanF p (a ++ c))
    rw [loan_app (a := a) h]
theorem loan_mid {p : Int} {a b : List DLoan} {x : DLoan} (h : x.1 ≠ p) : loanF p (a ++ [x] ++ b) = loanF p (a ++ b) := by
  rw [List.append_assoc]
  refine loan_app ?_
  show (if x.1 = p then x else loanF p b) = loanF p b
  rw [if_neg h]
theorem loan_set {p : Int} {L : List DLoan} {j : Nat} (h : j < L.length) {x : DLoan} (hx : x.1 = (L.getD j (0, 0, 0)).1) (hp : x.1 ≠ p) : loanF p (L.set j x) = loanF p L := by
  rw [set_at h, loan_mid hp]
  conv => rhs; rw [split_at h]
  rw [loan_mid (by rw [← hx]; exact hp)]
theorem pos_phone {L : List DLoan} (hp : (phones L).Pairwise (· < ·)) {q : Int} (hq : q ∈ phones L) : (L.getD (posL q L) (0, 0, 0)).1 = q := by
  rw [← phones_getD]
  exact ((mem_pos hp).1 hq).2
end Go.Proofs.Ytbbpiihbhdagnaa
