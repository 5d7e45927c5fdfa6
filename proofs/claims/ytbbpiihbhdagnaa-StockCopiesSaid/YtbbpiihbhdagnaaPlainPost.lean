/- The plain mathematics of layer 42 (post): ways that are right, what is sent and what arrives; no program in sight. -/
import Init
namespace Go.Proofs.Ytbbpiihbhdagnaa
set_option linter.unusedSimpArgs false
set_option linter.unusedVariables false
abbrev DWay := List ByteArray × Int × List Int
@[reducible] def dWay : DWay := ([], 0, [])
/-- Numbers in order, greater than n and less than m. -/
def ordE (n m : Int) : List Int → Bool
  | [] => true
  | e :: r => decide (n < e) && decide (e < m) && ordE e m r
def rightW (w : DWay) : Bool := (decide ((w.1.length : Int) ≤ 10000) && (decide (0 ≤ w.2.1) && decide (w.2.1 ≤ w.1.length))) && ordE w.2.1 w.1.length w.2.2
theorem ordE_mem {m : Int} : ∀ {E : List Int} {n : Int}, ordE n m E = true → ∀ e ∈ E, n < e ∧ e < m
  | [], _, _, e, he => by simp at he
  | x :: r, n, h, e, he => by
    unfold ordE at h
    simp only [Bool.and_eq_true, decide_eq_true_eq] at h
    rcases List.mem_cons.1 he with rfl | he
    · exact h.1
    · have := ordE_mem h.2 e he
      omega
theorem ordE_pair {m : Int} : ∀ {E : List Int} {n : Int}, ordE n m E = true → E.Pairwise (· < ·)
  | [], _, _ => List.Pairwise.nil
  | x :: r, n, h => by
    unfold ordE at h
    simp only [Bool.and_eq_true, decide_eq_true_eq] at h
    exact List.Pairwise.cons (fun e he => (ordE_mem h.2 e he).1) (ordE_pair h.2)
theorem ordE_of {n m : Int} : ∀ {E : List Int}, E.Pairwise (· < ·) → (∀ e ∈ E, n < e ∧ e < m) → ordE n m E = true
  | [], _, _ => rfl
  | x :: r, hp, h => by
    unfold ordE
    rw [List.pairwise_cons] at hp
    have h1 := h x (by simp)
    rw [decide_eq_true h1.1, decide_eq_true h1.2]
    have : ∀ {E : List Int} {k : Int}, E.Pairwise (· < ·) → (∀ e ∈ E, k < e) → (∀ e ∈ E, e < m) → ordE k m E = true := by
      intro E
      induction E with
      | nil => intros; rfl
      | cons y s ih =>
        intro k hp h1 h2
        unfold ordE
        rw [List.pairwise_cons] at hp
        rw [decide_eq_true (h1 y (by simp)), decide_eq_true (h2 y (by simp)), ih hp.2 hp.1 fun e he => h2 e (by simp [he])]
        rfl
    rw [this hp.2 hp.1 fun e he => (h e (by simp [he])).2]
    rfl
theorem ordE_len {m : Int} : ∀ {E : List Int} {n : Int}, ordE n m E = true → E = [] ∨ (E.length : Int) ≤ m - n - 1
  | [], _, _ => .inl rfl
  | x :: r, n, h => by
    unfold ordE at h
    simp only [Bool.and_eq_true, decide_eq_true_eq] at h
    right
    rw [List.length_cons]
    rcases ordE_len h.2 with e | e
    · subst e; simp; omega
    · omega
/-- What it means that a way is right. -/
structure IsRight (w : DWay) : Prop where
  few : w.1.length ≤ 10000
  low : 0 ≤ w.2.1
  high : w.2.1 ≤ w.1.length
  ord : w.2.2.Pairwise (· < ·)
  mem : ∀ e ∈ w.2.2, w.2.1 < e ∧ e < w.1.length
theorem rightW_iff {w : DWay} : rightW w = true ↔ IsRight w := by
  unfold rightW
  simp only [Bool.and_eq_true, decide_eq_true_eq]
  constructor
  · rintro ⟨⟨h1, h2, h3⟩, h4⟩
    exact ⟨by omega, h2, h3, ordE_pair h4, ordE_mem h4⟩
  · intro h
    exact ⟨⟨by have := h.few; omega, h.low, h.high⟩, ordE_of h.ord h.mem⟩
theorem IsRight.len {w : DWay} (h : IsRight w) : w.2.2.length ≤ 10000 := by
  have h1 := h.few
  have h2 := h.low
  rcases ordE_len (ordE_of h.ord h.mem) with e | e
  · rw [e]; exact Nat.zero_le _
  · omega
/-- How many are less. -/
def posF (t : Int) : List Int → Nat
  | [] => 0
  | x :: r => if x < t then posF t r + 1 else 0
theorem posF_le (t : Int) : ∀ l : List Int, posF t l ≤ l.length
  | [] => Nat.le_refl _
  | x :: r => by unfold posF; split; have := posF_le t r; simp; omega; simp
theorem posF_at {t : Int} : ∀ {l : List Int} {i : Nat}, i ≤ l.length → (∀ k, k < i → l.getD k 0 < t) → (∀ k, i ≤ k → k < l.length → t ≤ l.getD k 0) → posF t l = i
  | [], i, h, _, _ => by simp at h; subst h; rfl
  | x :: r, 0, _, _, h2 => by
    have := h2 0 (by omega) (by simp)
    simp at this
    unfold posF; rw [if_neg (by omega)]
  | x :: r, i + 1, h, h1, h2 => by
    have h0 := h1 0 (by omega)
    simp at h0
    unfold posF
    rw [if_pos h0, posF_at (i := i) (by simpa using h) (fun k hk => by simpa using h1 (k + 1) (by omega)) (fun k hk hl => by simpa using h2 (k + 1) (by omega) (by simpa using hl))]
theorem posF_low {t : Int} : ∀ {l : List Int} {k : Nat}, k < posF t l → l.getD k 0 < t
  | [], _, h => by simp [posF] at h
  | x :: r, k, h => by
    unfold posF at h
    split at h
    · rename_i c
      cases k with
      | zero => simpa using c
      | succ k => simpa using posF_low (l := r) (t := t) (k := k) (by omega)
    · omega
theorem posF_high {t : Int} : ∀ {l : List Int}, l.Pairwise (· < ·) → ∀ {k : Nat}, posF t l ≤ k → k < l.length → t ≤ l.getD k 0
  | [], _, _, _, h => by simp at h
  | x :: r, hp, k, h, hl => by
    rw [List.pairwise_cons] at hp
    unfold posF at h
    split at h
    · cases k with
      | zero => omega
      | succ k => simpa using posF_high (l := r) hp.2 (k := k) (by omega) (by simpa using hl)
    · rename_i c
      cases k with
      | zero => simp; omega
      | succ k =>
        have : r.getD k 0 ∈ r := by
          have hk : k < r.length := by simpa using hl
          simp [List.getD, hk]
        have := hp.1 _ this
        simp at this ⊢; omega
theorem getD_of_mem {l : List Int} {t : Int} (h : t ∈ l) : ∃ k, k < l.length ∧ l.getD k 0 = t := by
  obtain ⟨k, hk, e⟩ := List.getElem_of_mem h
  exact ⟨k, hk, by simp [List.getD, hk, e]⟩
theorem mem_of_getD {l : List Int} {k : Nat} (h : k < l.length) : l.getD k 0 ∈ l := by simp [List.getD, h]
theorem mem_pos {t : Int} {l : List Int} (hp : l.Pairwise (· < ·)) : t ∈ l ↔ posF t l < l.length ∧ l.getD (posF t l) 0 = t := by
  constructor
  · intro h
    obtain ⟨k, hk, e⟩ := getD_of_mem h
    have h1 : posF t l ≤ k := by
      rcases Nat.lt_or_ge k (posF t l) with c | c
      · have := posF_low c; omega
      · exact c
    have h2 := posF_high hp (Nat.le_refl _) (by omega : posF t l < l.length)
    refine ⟨by omega, ?_⟩
    rcases Nat.lt_or_ge (posF t l) k with c | c
    · have : l.getD (posF t l) 0 < l.getD k 0 := by
        rw [List.pairwise_iff_getElem] at hp
        have := hp (posF t l) k (by omega) hk c
        simpa [List.getD, hk, show posF t l < l.length by omega] using this
      omega
    · rw [show posF t l = k by omega]; exact e
  · rintro ⟨h1, h2⟩
    rw [← h2]; exact mem_of_getD h1
def insE (E : List Int) (t : Int) : List Int := E.take (posF t E) ++ [t] ++ E.drop (posF t E)
theorem mem_insE {E : List Int} {t x : Int} : x ∈ insE E t ↔ x ∈ E ∨ x = t := by
  unfold insE
  have : x ∈ E ↔ x ∈ E.take (posF t E) ∨ x ∈ E.drop (posF t E) := by rw [← List.mem_append, List.take_append_drop]
  rw [this]
  simp only [List.mem_append, List.mem_singleton]
  constructor
  · rintro ((h | h) | h) <;> simp [h]
  · rintro ((h | h) | h) <;> simp [h]
theorem insE_ord {E : List Int} {t : Int} (hp : E.Pairwise (· < ·)) (ht : t ∉ E) : (insE E t).Pairwise (· < ·) := by
  unfold insE
  have hlow : ∀ x ∈ E.take (posF t E), x < t := fun x hx => by
    obtain ⟨k, hk, e⟩ := List.mem_take_iff_getElem.1 hx
    have := posF_low (l := E) (t := t) (k := k) (by omega)
    have hk' : k < E.length := by omega
    simp [List.getD, hk'] at this
    rw [← e]; exact this
  have hhigh : ∀ x ∈ E.drop (posF t E), t < x := fun x hx => by
    obtain ⟨k, hk, e⟩ := List.mem_drop_iff_getElem.1 hx
    have := posF_high hp (k := posF t E + k) (t := t) (by omega) (by omega)
    have hk' : posF t E + k < E.length := by omega
    simp [List.getD, hk'] at this
    have hne : x ≠ t := fun q => ht (by rw [← q]; exact List.mem_of_mem_drop hx)
    rw [e] at this
    omega
  rw [List.append_assoc, List.pairwise_append]
  refine ⟨hp.sublist (List.take_sublist _ _), ?_, fun a ha b hb => ?_⟩
  · rw [List.singleton_append, List.pairwise_cons]
    exact ⟨hhigh, hp.sublist (List.drop_sublist _ _)⟩
  · rcases List.mem_append.1 hb with hb | hb
    · rw [List.mem_singleton] at hb; subst hb; exact hlow a ha
    · have := hlow a ha
      have := hhigh b hb
      omega
/-- How many numbers follow one another from n on. -/
def runE (n : Int) : List Int → Nat
  | [] => 0
  | e :: r => if e = n then runE (n + 1) r + 1 else 0
theorem runE_le : ∀ (n : Int) (E : List Int), runE n E ≤ E.length
  | _, [] => Nat.le_refl _
  | n, e :: r => by unfold runE; split; have := runE_le (n + 1) r; simp; omega; simp
theorem runE_step : ∀ (E : List Int) (n : Int) (j : Nat), j ≤ runE n E → (j < runE n E ↔ j < E.length ∧ E.getD j 0 = n + j)
  | [], n, j, h => by simp [runE]
  | e :: r, n, j, h => by
    unfold runE at h ⊢
    split at h
    · rename_i c
      rw [if_pos c]
      cases j with
      | zero => simp [c]
      | succ j =>
        have ih := runE_step r (n + 1) j (by omega)
        have e1 : (e :: r).getD (j + 1) 0 = r.getD j 0 := rfl
        rw [e1, List.length_cons]
        constructor
        · intro q
          have := ih.1 (by omega)
          omega
        · intro q
          have := ih.2 ⟨by omega, by omega⟩
          omega
    · rename_i c
      rw [if_neg c]
      obtain rfl : j = 0 := by omega
      have e1 : (e :: r).getD 0 0 = e := rfl
      rw [e1]
      constructor
      · intro q; omega
      · intro q; omega
def missTo (w : DWay) (k : Nat) : List Int := ((List.range' w.2.1.toNat k).map fun (i : Nat) => (i : Int)).filter fun i => decide (i ∉ w.2.2)
theorem missTo_next (w : DWay) (k : Nat) : missTo w (k + 1) = if ((w.2.1.toNat + k : Nat) : Int) ∈ w.2.2 then missTo w k else missTo w k ++ [((w.2.1.toNat + k : Nat) : Int)] := by
  unfold missTo
  rw [List.range'_1_concat, List.map_append, List.filter_append, List.map_cons, List.map_nil, List.filter_cons, List.filter_nil]
  by_cases c : ((w.2.1.toNat + k : Nat) : Int) ∈ w.2.2
  · rw [if_pos c, if_neg (by rw [decide_eq_true_eq]; exact fun q => q c)]; exact List.append_nil _
  · rw [if_neg c, if_pos (decide_eq_true c)]
theorem missTo_len (w : DWay) (k : Nat) : (missTo w k).length ≤ k := by
  unfold missTo
  refine Nat.le_trans (List.length_filter_le _ _) ?_
  simp
theorem runE_take : ∀ (n : Int) (E : List Int) (x : Int), x ∈ E.take (runE n E) ↔ n ≤ x ∧ x < n + runE n E
  | n, [], x => by
    unfold runE
    rw [List.take_zero]
    exact ⟨fun h => absurd h List.not_mem_nil, fun h => by omega⟩
  | n, e :: r, x => by
    unfold runE
    split
    · rename_i c; subst c
      rw [List.take_succ_cons, List.mem_cons, runE_take (e + 1) r x]
      omega
    · rw [List.take_zero]
      exact ⟨fun h => absurd h List.not_mem_nil, fun h => by omega⟩
theorem runE_bd {n m : Int} {E : List Int} (h : ∀ e ∈ E, e < m) (hn : n ≤ m) : n + runE n E ≤ m := by
  by_cases c : runE n E = 0
  · rw [c]; omega
  · have := (runE_take n E (n + runE n E - 1)).2 ⟨by omega, by omega⟩
    have := h _ (List.mem_of_mem_take this)
    omega
theorem runE_next {n m : Int} : ∀ {E : List Int}, ordE n m E = true → n + 1 + runE (n + 1) E ∉ E.drop (runE (n + 1) E) ∧ ∀ e ∈ E.drop (runE (n + 1) E), n + 1 + runE (n + 1) E < e
  | [], _ => by simp
  | e :: r, h => by
    unfold ordE at h
    simp only [Bool.and_eq_true, decide_eq_true_eq] at h
    have hm := ordE_mem h.2
    unfold runE
    split
    · rename_i c
      subst c
      have ih := runE_next h.2
      rw [List.drop_succ_cons]
      have e1 : n + 1 + ((runE (n + 1 + 1) r + 1 : Nat) : Int) = n + 1 + 1 + (runE (n + 1 + 1) r : Nat) := by omega
      rw [e1]; exact ih
    · rename_i c
      rw [List.drop_zero]
      have h0 : n + 1 < e := by omega
      constructor
      · intro q
        rcases List.mem_cons.1 q with q | q
        · omega
        · have := hm _ q; omega
      · intro x hx
        rcases List.mem_cons.1 hx with rfl | hx
        · omega
        · have := hm x hx; omega
/-- What arrives. -/
def arriveF (w : DWay) (seq : Int) : DWay × List ByteArray × Int :=
  if rightW w = false then (dWay, [], 1)
  else if seq < 0 ∨ (w.1.length : Int) ≤ seq then (dWay, [], 4)
  else if seq ∈ w.2.2 ∨ seq < w.2.1 then (dWay, [], 5)
  else if w.2.1 < seq then ((w.1, w.2.1, insE w.2.2 seq), [], 0)
  else ((w.1, w.2.1 + 1 + runE (w.2.1 + 1) w.2.2, w.2.2.drop (runE (w.2.1 + 1) w.2.2)), (w.1.take (w.2.1 + 1 + runE (w.2.1 + 1) w.2.2).toNat).drop w.2.1.toNat, 0)
def sendF (w : DWay) (e : ByteArray) : DWay × Int :=
  if rightW w = false then (dWay, 1) else if w.1.length = 10000 then (dWay, 6) else ((w.1 ++ [e], w.2.1, w.2.2), 0)
def flightF (w : DWay) : List ByteArray := if rightW w = false then [] else w.1.drop w.2.1.toNat
def againF (w : DWay) : List Int := if rightW w = false then [] else missTo w (w.1.length - w.2.1.toNat)
end Go.Proofs.Ytbbpiihbhdagnaa
