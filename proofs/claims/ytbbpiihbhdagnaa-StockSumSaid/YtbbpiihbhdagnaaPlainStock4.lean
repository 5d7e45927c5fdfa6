/- The plain laws of layer 40 (stock): what is done keeps a stock right; no program in sight. -/
import Derived.Test.YtbbpiihbhdagnaaPlainStock3
namespace Go.Proofs.Ytbbpiihbhdagnaa
set_option linter.unusedSimpArgs false
set_option linter.unusedVariables false
/-- What a right list of loans is. -/
structure Loans (f e : Int) (L : List DLoan) : Prop where
  ord : (phones L).Pairwise (· < ·)
  mem : ∀ x ∈ phones L, e < x ∧ x < 12
  each : ∀ l ∈ L, 1 ≤ l.2.1 ∧ 0 ≤ l.2.2 ∧ l.2.2 ≤ l.2.1
  sum : sumU L ≤ f
theorem sumU_pos : ∀ {L : List DLoan}, (∀ l ∈ L, 1 ≤ l.2.1 ∧ 0 ≤ l.2.2 ∧ l.2.2 ≤ l.2.1) → 0 ≤ sumU L
  | [], _ => Int.le_refl _
  | l :: r, h => by
    have h1 := h l (by simp)
    have := sumU_pos (L := r) fun x hx => h x (by simp [hx])
    show 0 ≤ l.2.1 + sumU r
    omega
theorem okL_iff : ∀ {L : List DLoan} {f e : Int}, 0 ≤ f → (okL f e L = true ↔ Loans f e L)
  | [], f, e, h0 => ⟨fun _ => ⟨List.Pairwise.nil, fun x hx => absurd hx List.not_mem_nil, fun l hl => absurd hl List.not_mem_nil, h0⟩, fun _ => rfl⟩
  | l :: r, f, e, h0 => by
    unfold okL
    rw [Bool.and_eq_true, Bool.not_eq_true', decide_eq_false_iff_not]
    constructor
    · rintro ⟨h1, h2⟩
      unfold badL at h1
      have h3 := (okL_iff (by omega)).1 h2
      refine ⟨?_, fun x hx => ?_, fun x hx => ?_, ?_⟩
      · unfold phones
        rw [List.map_cons]
        exact List.Pairwise.cons (fun x hx => (h3.mem x hx).1) h3.ord
      · unfold phones at hx
        rw [List.map_cons] at hx
        rcases List.mem_cons.1 hx with rfl | hx
        · omega
        · have := h3.mem x hx; omega
      · rcases List.mem_cons.1 hx with rfl | hx
        · omega
        · exact h3.each x hx
      · have := h3.sum
        show l.2.1 + sumU r ≤ f
        omega
    · intro h
      have h1 := h.each l (by simp)
      have h2 := h.mem l.1 (by unfold phones; simp)
      have h3 : l.2.1 + sumU r ≤ f := h.sum
      have h4 := sumU_pos (L := r) fun x hx => h.each x (by simp [hx])
      have ho := h.ord
      unfold phones at ho
      rw [List.map_cons, List.pairwise_cons] at ho
      refine ⟨by unfold badL; omega, (okL_iff (by omega)).2 ⟨ho.2, fun x hx => ⟨ho.1 x hx, (h.mem x (by unfold phones at hx ⊢; rw [List.map_cons]; exact List.mem_cons_of_mem _ hx)).2⟩, fun x hx => h.each x (by simp [hx]), by omega⟩⟩
theorem right_iff {s : DStk} : rightS s = true ↔ ¬ badH s.1 s.2.1 ∧ Loans (s.1 - s.2.1) (-1) s.2.2 := by
  unfold rightS
  rw [Bool.and_eq_true, Bool.not_eq_true', decide_eq_false_iff_not]
  refine and_congr_right fun h => ?_
  unfold badH at h
  exact okL_iff (by omega)
def sumD : List DLoan → Int
  | [] => 0
  | l :: r => l.2.2 + sumD r
theorem sumD_append : ∀ (a b : List DLoan), sumD (a ++ b) = sumD a + sumD b
  | [], b => by simp [sumD]
  | x :: r, b => by
    show x.2.2 + sumD (r ++ b) = (x.2.2 + sumD r) + sumD b
    rw [sumD_append r b]; omega
def promF (s : DStk) : Int := s.2.1 + sumD s.2.2
theorem split_at {L : List DLoan} {j : Nat} (h : j < L.length) : L = L.take j ++ [L.getD j (0, 0, 0)] ++ L.drop (j + 1) := by
  have : L.getD j (0, 0, 0) = L[j] := by simp [List.getD, h]
  rw [this, List.append_assoc, List.singleton_append, ← List.drop_eq_getElem_cons h, List.take_append_drop]
theorem set_at {L : List DLoan} {j : Nat} (h : j < L.length) (x : DLoan) : L.set j x = L.take j ++ [x] ++ L.drop (j + 1) := by
  rw [List.set_eq_take_append_cons_drop, if_pos h]
  simp
theorem phones_append (a b : List DLoan) : phones (a ++ b) = phones a ++ phones b := List.map_append
theorem phones_set {L : List DLoan} {j : Nat} (h : j < L.length) {x : DLoan} (hx : x.1 = (L.getD j (0, 0, 0)).1) : phones (L.set j x) = phones L := by
  rw [set_at h]
  conv => rhs; rw [split_at h]
  simp only [phones_append]
  unfold phones
  simp only [List.map_cons, List.map_nil, hx]
theorem sumU_set {L : List DLoan} {j : Nat} (h : j < L.length) (x : DLoan) : sumU (L.set j x) = sumU L - (L.getD j (0, 0, 0)).2.1 + x.2.1 := by
  rw [set_at h]
  have e : sumU L = sumU (L.take j ++ [L.getD j (0, 0, 0)] ++ L.drop (j + 1)) := by rw [← split_at h]
  rw [e]
  simp only [sumU_append, sumU]
  omega
theorem sumD_set {L : List DLoan} {j : Nat} (h : j < L.length) (x : DLoan) : sumD (L.set j x) = sumD L - (L.getD j (0, 0, 0)).2.2 + x.2.2 := by
  rw [set_at h]
  have e : sumD L = sumD (L.take j ++ [L.getD j (0, 0, 0)] ++ L.drop (j + 1)) := by rw [← split_at h]
  rw [e]
  simp only [sumD_append, sumD]
  omega
theorem loans_set {f f' e : Int} {L : List DLoan} (h : Loans f e L) {j : Nat} (hj : j < L.length) {x : DLoan} (hx : x.1 = (L.getD j (0, 0, 0)).1) (h1 : 1 ≤ x.2.1 ∧ 0 ≤ x.2.2 ∧ x.2.2 ≤ x.2.1) (h2 : sumU L - (L.getD j (0, 0, 0)).2.1 + x.2.1 ≤ f') : Loans f' e (L.set j x) := by
  refine ⟨by rw [phones_set hj hx]; exact h.ord, by rw [phones_set hj hx]; exact h.mem, fun l hl => ?_, by rw [sumU_set hj]; exact h2⟩
  rcases List.mem_or_eq_of_mem_set hl with c | c
  · exact h.each l c
  · rw [c]; exact h1
theorem take_right {s : DStk} (h : rightS s = true) (v : Int) : rightS (takeF s v).1 = true ∧ (takeF s v).1.1 = s.1 ∧ promF (takeF s v).1 = promF s + (if (takeF s v).2 = 0 then v else 0) := by
  unfold takeF
  by_cases c1 : fitsF s 0 v = false
  · rw [if_pos c1]; exact ⟨h, rfl, by simp⟩
  rw [if_neg c1]
  by_cases c2 : freeS s < v
  · rw [if_pos c2]; exact ⟨h, rfl, by simp⟩
  rw [if_neg c2]
  obtain ⟨_, _, h2, h3⟩ := fits_spec (by simpa using c1)
  obtain ⟨hb, hl⟩ := right_iff.1 h
  have hfr : freeS s = s.1 - s.2.1 - sumU s.2.2 := by unfold freeS; rw [if_pos h]
  have hp := sumU_pos hl.each
  unfold badH at hb
  refine ⟨right_iff.2 ⟨by unfold badH; dsimp only; omega, hl.ord, hl.mem, hl.each, by dsimp only; omega⟩, rfl, ?_⟩
  unfold promF
  rw [if_pos rfl]
  dsimp only
  omega
theorem use_right {s : DStk} (h : rightS s = true) (q v : Int) : rightS (useF s q v).1 = true ∧ (useF s q v).1.1 = s.1 ∧ promF (useF s q v).1 = promF s + (if (useF s q v).2 = 0 then v else 0) := by
  unfold useF
  by_cases c1 : fitsF s q v = false
  · rw [if_pos c1]; exact ⟨h, rfl, by simp⟩
  rw [if_neg c1]
  by_cases m : q ∈ phones s.2.2
  case neg => rw [if_pos m]; exact ⟨h, rfl, by simp⟩
  rw [if_neg (fun z => z m)]
  by_cases c2 : (s.2.2.getD (posL q s.2.2) (0, 0, 0)).2.1 - (s.2.2.getD (posL q s.2.2) (0, 0, 0)).2.2 < v
  · rw [if_pos c2]; exact ⟨h, rfl, by simp⟩
  rw [if_neg c2]
  obtain ⟨_, _, h2, h3⟩ := fits_spec (by simpa using c1)
  obtain ⟨hb, hl⟩ := right_iff.1 h
  have hj := pos_lt (right_pair h) m
  have hlo := right_loan h hj
  have hsum := hl.sum
  unfold addD
  refine ⟨right_iff.2 ⟨hb, loans_set hl hj rfl (by dsimp only; omega) (by dsimp only; omega)⟩, rfl, ?_⟩
  unfold promF
  rw [if_pos rfl]
  dsimp only
  rw [sumD_set hj]
  dsimp only
  omega
theorem phones_ins (L : List DLoan) (q v d : Int) : phones (L.take (posL q L) ++ [(q, v, d)] ++ L.drop (posL q L)) = insE (phones L) q := by
  simp only [phones_append]
  unfold insE posL phones
  rw [List.map_take, List.map_drop]
  rfl
theorem lend_right {s : DStk} (h : rightS s = true) (q v : Int) : rightS (lendF s q v).1 = true ∧ (lendF s q v).1.1 = s.1 ∧ promF (lendF s q v).1 = promF s := by
  unfold lendF
  by_cases c1 : fitsF s q v = false
  · rw [if_pos c1]; exact ⟨h, rfl, rfl⟩
  rw [if_neg c1]
  by_cases c2 : freeS s < v
  · rw [if_pos c2]; exact ⟨h, rfl, rfl⟩
  rw [if_neg c2]
  obtain ⟨_, hq, h2, h3⟩ := fits_spec (by simpa using c1)
  obtain ⟨hb, hl⟩ := right_iff.1 h
  have hfr : freeS s = s.1 - s.2.1 - sumU s.2.2 := by unfold freeS; rw [if_pos h]
  unfold lendL
  by_cases m : q ∈ phones s.2.2
  · rw [if_pos m]
    have hj := pos_lt (right_pair h) m
    have hlo := right_loan h hj
    unfold addU
    refine ⟨right_iff.2 ⟨hb, loans_set hl hj rfl (by dsimp only; omega) (by dsimp only; omega)⟩, rfl, ?_⟩
    unfold promF
    dsimp only
    rw [sumD_set hj]
    dsimp only
    omega
  · rw [if_neg m]
    have e1 : sumU (s.2.2.take (posL q s.2.2)) + sumU (s.2.2.drop (posL q s.2.2)) = sumU s.2.2 := by rw [← sumU_append, List.take_append_drop]
    have e2 : sumD (s.2.2.take (posL q s.2.2)) + sumD (s.2.2.drop (posL q s.2.2)) = sumD s.2.2 := by rw [← sumD_append, List.take_append_drop]
    refine ⟨right_iff.2 ⟨hb, ?_, fun x hx => ?_, fun l hl2 => ?_, ?_⟩, rfl, ?_⟩
    · dsimp only
      rw [phones_ins]
      exact insE_ord hl.ord m
    · dsimp only at hx
      rw [phones_ins] at hx
      rcases mem_insE.1 hx with c | c
      · exact hl.mem x c
      · omega
    · dsimp only at hl2
      rcases List.mem_append.1 hl2 with c | c
      · rcases List.mem_append.1 c with c | c
        · exact hl.each l (List.mem_of_mem_take c)
        · rw [List.mem_singleton] at c
          subst c
          dsimp only
          omega
      · exact hl.each l (List.mem_of_mem_drop c)
    · dsimp only
      simp only [sumU_append, sumU]
      omega
    · unfold promF
      dsimp only
      simp only [sumD_append, sumD]
      omega
theorem give_right {s : DStk} (h : rightS s = true) (q : Int) : rightS (giveF s q).1 = true ∧ (giveF s q).1.1 = s.1 ∧ promF (giveF s q).1 = promF s := by
  unfold giveF
  by_cases c1 : fitsF s q 1 = false
  · rw [if_pos c1]; exact ⟨h, rfl, rfl⟩
  rw [if_neg c1]
  by_cases m : q ∈ phones s.2.2
  case neg => rw [if_pos m]; exact ⟨h, rfl, rfl⟩
  rw [if_neg (fun z => z m)]
  obtain ⟨hb, hl⟩ := right_iff.1 h
  have hj := pos_lt (right_pair h) m
  have hlo := right_loan h hj
  have hsum := hl.sum
  have e1 : sumU s.2.2 = sumU (s.2.2.take (posL q s.2.2)) + (s.2.2.getD (posL q s.2.2) (0, 0, 0)).2.1 + sumU (s.2.2.drop (posL q s.2.2 + 1)) := by
    have e : sumU s.2.2 = sumU (s.2.2.take (posL q s.2.2) ++ [s.2.2.getD (posL q s.2.2) (0, 0, 0)] ++ s.2.2.drop (posL q s.2.2 + 1)) := by rw [← split_at hj]
    rw [e]
    simp only [sumU_append, sumU]
    omega
  have e2 : sumD s.2.2 = sumD (s.2.2.take (posL q s.2.2)) + (s.2.2.getD (posL q s.2.2) (0, 0, 0)).2.2 + sumD (s.2.2.drop (posL q s.2.2 + 1)) := by
    have e : sumD s.2.2 = sumD (s.2.2.take (posL q s.2.2) ++ [s.2.2.getD (posL q s.2.2) (0, 0, 0)] ++ s.2.2.drop (posL q s.2.2 + 1)) := by rw [← split_at hj]
    rw [e]
    simp only [sumD_append, sumD]
    omega
  have hsub : (s.2.2.take (posL q s.2.2) ++ s.2.2.drop (posL q s.2.2 + 1)).Sublist s.2.2 := by
    conv => rhs; rw [split_at hj]
    exact List.Sublist.append (List.sublist_append_left _ _) (List.Sublist.refl _)
  have hpos : 0 ≤ sumU (s.2.2.take (posL q s.2.2)) := sumU_pos fun l c => hl.each l (List.mem_of_mem_take c)
  have hpos2 : 0 ≤ sumU (s.2.2.drop (posL q s.2.2 + 1)) := sumU_pos fun l c => hl.each l (List.mem_of_mem_drop c)
  unfold badH at hb
  refine ⟨right_iff.2 ⟨by unfold badH; dsimp only; omega, ?_, fun x hx => ?_, fun l c => hl.each l (hsub.subset c), ?_⟩, rfl, ?_⟩
  · exact hl.ord.sublist (hsub.map _)
  · exact hl.mem x ((hsub.map _).subset hx)
  · dsimp only
    rw [sumU_append]
    omega
  · unfold promF
    dsimp only
    rw [sumD_append]
    omega
/-- What is promised is never more than there is. -/
theorem prom_le {s : DStk} (h : rightS s = true) : promF s ≤ s.1 := by
  obtain ⟨hb, hl⟩ := right_iff.1 h
  have : ∀ L : List DLoan, (∀ l ∈ L, 1 ≤ l.2.1 ∧ 0 ≤ l.2.2 ∧ l.2.2 ≤ l.2.1) → sumD L ≤ sumU L := by
    intro L
    induction L with
    | nil => intro _; exact Int.le_refl _
    | cons l r ih =>
      intro hh
      have h1 := hh l (by simp)
      have h2 := ih fun x hx => hh x (by simp [hx])
      show l.2.2 + sumD r ≤ l.2.1 + sumU r
      omega
  have h1 := this s.2.2 hl.each
  have h2 := hl.sum
  unfold promF
  omega
theorem sumD_take {L : List DLoan} {j : Nat} (h : j < L.length) : sumD (L.take (j + 1)) = sumD (L.take j) + (L.getD j (0, 0, 0)).2.2 := by
  rw [List.take_succ_eq_append_getElem h, sumD_append]
  have : L.getD j (0, 0, 0) = L[j] := by simp [List.getD, h]
  rw [this]; simp [sumD]
theorem prom_to {s : DStk} (h : rightS s = true) (j : Nat) : 0 ≤ sumD (s.2.2.take j) ∧ s.2.1 + sumD (s.2.2.take j) ≤ s.1 := by
  obtain ⟨hb, hl⟩ := right_iff.1 h
  have hs := right_sum h j
  have : ∀ L : List DLoan, (∀ l ∈ L, 1 ≤ l.2.1 ∧ 0 ≤ l.2.2 ∧ l.2.2 ≤ l.2.1) → 0 ≤ sumD L ∧ sumD L ≤ sumU L := by
    intro L
    induction L with
    | nil => intro _; exact ⟨Int.le_refl _, Int.le_refl _⟩
    | cons l r ih =>
      intro hh
      have h1 := hh l (by simp)
      have h2 := ih fun x hx => hh x (by simp [hx])
      show 0 ≤ l.2.2 + sumD r ∧ l.2.2 + sumD r ≤ l.2.1 + sumU r
      omega
  have := this (s.2.2.take j) fun l c => hl.each l (List.mem_of_mem_take c)
  omega
theorem prom_nn {s : DStk} (h : rightS s = true) : 0 ≤ promF s := by
  have h1 := prom_to h s.2.2.length
  have hb := (right_spec h).1
  unfold badH at hb
  rw [List.take_length] at h1
  unfold promF
  omega
end Go.Proofs.Ytbbpiihbhdagnaa
