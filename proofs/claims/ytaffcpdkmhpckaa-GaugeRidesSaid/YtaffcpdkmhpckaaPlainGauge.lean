/- The plain mathematics of layer 14 (gauge): observations, and the narrower bounds; no program in sight. -/
import Derived.Test.YtaffcpdkmhpckaaPlainClock
namespace Go.Proofs.Ytaffcpdkmhpckaa
set_option linter.unusedSimpArgs false
set_option linter.unusedVariables false

/-- An observation. -/
structure Obs where
  s : Int
  t : Int
def Obs.okB (o : Obs) : Bool := decide (0 ≤ o.s) && decide (o.s ≤ 1048576) && decide (0 ≤ o.t) && decide (o.t ≤ 10000)
def obsRightB (l : List Obs) : Bool := decide (l.length ≤ 10000) && l.all Obs.okB
theorem okB_true {o : Obs} (h : o.okB = true) : 0 ≤ o.s ∧ o.s ≤ 1048576 ∧ 0 ≤ o.t ∧ o.t ≤ 10000 := by
  unfold Obs.okB at h; simp at h; omega
theorem okB_mk {o : Obs} (h : 0 ≤ o.s ∧ o.s ≤ 1048576 ∧ 0 ≤ o.t ∧ o.t ≤ 10000) : o.okB = true := by
  unfold Obs.okB; simp; omega
instance : Inhabited Obs := ⟨⟨0, 0⟩⟩
def badAt (l : List Obs) (i : Nat) : Bool := !(l.getD i default).okB
/-- The index of the first bad one. -/
def firstBad : List Obs → Int
  | [] => -1
  | o :: r => if o.okB then (if firstBad r < 0 then -1 else firstBad r + 1) else 0
theorem firstBad_all : ∀ l : List Obs, (0 ≤ firstBad l) ↔ l.all Obs.okB = false
  | [] => by simp [firstBad]
  | o :: r => by
    have ih := firstBad_all r
    unfold firstBad
    cases h : o.okB
    · simp [h]
    · simp only [if_true, List.all_cons, h, Bool.true_and]
      rw [← ih]
      split <;> omega
/-- The search, behind k good ones. -/
theorem firstBad_at {l : List Obs} {k : Nat} (hk : k < l.length) (hg : ∀ j, j < k → (l.getD j default).okB = true) (hb : (l.getD k default).okB = false) : firstBad l = k := by
  induction l generalizing k with
  | nil => simp at hk
  | cons o r ih =>
    unfold firstBad
    cases k with
    | zero => simp at hb; simp [hb]
    | succ k =>
      have h0 := hg 0 (by omega)
      simp at h0
      have h1 := ih (k := k) (by simpa using hk) (fun j hj => by simpa using hg (j + 1) (by omega)) (by simpa using hb)
      simp [h0, h1]
      omega
theorem firstBad_none {l : List Obs} (hg : ∀ j, j < l.length → (l.getD j default).okB = true) : firstBad l = -1 := by
  induction l with
  | nil => rfl
  | cons o r ih =>
    have h0 := hg 0 (by simp)
    simp at h0
    have h1 := ih (fun j hj => by simpa using hg (j + 1) (by simpa using hj))
    unfold firstBad
    simp [h0, h1]

/-- The least and the greatest of a list of numbers. -/
def minL : List Int → Int
  | [] => 0
  | x :: r => r.foldl (fun a b => if b < a then b else a) x
def maxL : List Int → Int
  | [] => 0
  | x :: r => r.foldl (fun a b => if a < b then b else a) x
/-- A fold, one element further. -/
theorem take_fold (f : Int → Int → Int) (x : Int) (r : List Int) (k : Nat) (hk : k < r.length) : (r.take (k + 1)).foldl f x = f ((r.take k).foldl f x) (r.getD k 0) := by
  rw [List.take_succ_eq_append_getElem hk, List.foldl_append, List.getD_eq_getElem?_getD, List.getElem?_eq_getElem hk]
  rfl
/-! The narrower bounds. -/
def insideB (a : Arc) (o : Obs) : Bool := decide (a.L.getD (hour o.s) 0 ≤ o.t) && decide (o.t ≤ a.H.getD (hour o.s) 0)
def seenAt (a : Arc) (l : List Obs) (h : Nat) : List Int := (l.filter fun o => insideB a o && hour o.s == h).map Obs.t
def straysFrom (a : Arc) : Nat → List Obs → List Int
  | _, [] => []
  | k, o :: r => if insideB a o then straysFrom a (k + 1) r else (k : Int) :: straysFrom a (k + 1) r
def straysOf (a : Arc) (l : List Obs) : List Int := straysFrom a 0 l
theorem straysFrom_snoc (a : Arc) (o : Obs) : ∀ (l : List Obs) (k : Nat), straysFrom a k (l ++ [o]) = straysFrom a k l ++ if insideB a o then [] else [((k + l.length : Nat) : Int)]
  | [], k => by unfold straysFrom; simp only [List.nil_append, straysFrom]; split <;> simp_all
  | x :: l, k => by
    rw [List.cons_append]
    unfold straysFrom
    have ih := straysFrom_snoc a o l (k + 1)
    have e : k + 1 + l.length = k + (l.length + 1) := by omega
    split
    · rw [ih, List.length_cons, e]
    · rw [ih, List.length_cons, e]; rfl
theorem take_snoc {l : List Obs} {k : Nat} (hk : k < l.length) : l.take (k + 1) = l.take k ++ [l.getD k default] := by
  rw [List.take_succ_eq_append_getElem hk, List.getD_eq_getElem?_getD, List.getElem?_eq_getElem hk]; rfl
/-- The rows of the first loop: an hour each, and the strays. -/
def rowsAt (a : Arc) (l : List Obs) (k : Nat) : Nat → List Int := fun i => if i < 24 then seenAt a (l.take k) i else straysOf a (l.take k)
theorem rowsAt_zero (a : Arc) (l : List Obs) : rowsAt a l 0 = fun _ => [] := by
  funext i; unfold rowsAt; split <;> rfl
theorem rowsAt_stray {a : Arc} {l : List Obs} {k : Nat} (hk : k < l.length) (h : insideB a (l.getD k default) = false) (i : Nat) :
    rowsAt a l (k + 1) i = if i < 24 then rowsAt a l k i else rowsAt a l k i ++ [(k : Int)] := by
  unfold rowsAt
  rw [take_snoc hk]
  generalize l.getD k default = o at *
  split
  · unfold seenAt
    rw [List.filter_append, List.map_append]
    simp [List.filter_cons, h]
  · unfold straysOf
    rw [straysFrom_snoc, h]
    simp [Nat.min_eq_left (Nat.le_of_lt hk)]
theorem rowsAt_seen {a : Arc} {l : List Obs} {k : Nat} (hk : k < l.length) (h : insideB a (l.getD k default) = true) (i : Nat) :
    rowsAt a l (k + 1) i = if i = hour (l.getD k default).s then rowsAt a l k i ++ [(l.getD k default).t] else rowsAt a l k i := by
  have hh := hour_lt (l.getD k default).s
  unfold rowsAt
  rw [take_snoc hk]
  generalize l.getD k default = o at *
  by_cases c : i < 24
  · simp only [c, if_true]
    unfold seenAt
    rw [List.filter_append, List.map_append]
    by_cases e : i = hour o.s
    · subst e; simp [List.filter_cons, h]
    · have e' : (hour o.s == i) = false := by rw [beq_eq_false_iff_ne]; exact Ne.symm e
      simp [List.filter_cons, h, e', e]
  · simp only [c, if_false]
    rw [if_neg (by omega)]
    unfold straysOf
    rw [straysFrom_snoc, h]
    simp
theorem rowsAt_len (a : Arc) (l : List Obs) (k i : Nat) : (rowsAt a l k i).length ≤ k := by
  have hk : (l.take k).length ≤ k := List.length_take_le _ _
  unfold rowsAt
  split
  · unfold seenAt
    rw [List.length_map]
    exact Nat.le_trans (List.length_filter_le _ _) hk
  · have : ∀ (r : List Obs) (j : Nat), (straysFrom a j r).length ≤ r.length := by
      intro r
      induction r with
      | nil => intro j; simp [straysFrom]
      | cons o r ih => intro j; unfold straysFrom; have := ih (j + 1); split <;> simp <;> omega
    exact Nat.le_trans (this _ _) hk
/-- The new bounds of an hour. -/
def lowAt (a : Arc) (l : List Obs) (h : Nat) : Int := if 5 ≤ (seenAt a l h).length then (if a.L.getD h 0 < minL (seenAt a l h) - 3 then minL (seenAt a l h) - 3 else a.L.getD h 0) else a.L.getD h 0
def highAt (a : Arc) (l : List Obs) (h : Nat) : Int := if 5 ≤ (seenAt a l h).length then (if maxL (seenAt a l h) + 3 < a.H.getD h 0 then maxL (seenAt a l h) + 3 else a.H.getD h 0) else a.H.getD h 0
/-- The arc behind k hours. -/
def upTo (f : Nat → Int) (L : List Int) (k : Nat) : List Int := (List.range 24).map fun h => if h < k then f h else L.getD h 0
theorem upTo_zero (f : Nat → Int) {L : List Int} (h : L.length = 24) : upTo f L 0 = L := by
  apply List.ext_getElem
  · simp [upTo, h]
  · intro i h1 h2
    simp only [upTo, List.length_map, List.length_range] at h1
    simp [upTo, List.getElem?_eq_getElem h2]
theorem upTo_len (f : Nat → Int) (L : List Int) (k : Nat) : (upTo f L k).length = 24 := by simp [upTo]
theorem upTo_get (f : Nat → Int) (L : List Int) (k : Nat) {h : Nat} (hh : h < 24) : (upTo f L k).getD h 0 = if h < k then f h else L.getD h 0 := by
  simp only [upTo, List.getD_eq_getElem?_getD, List.getElem?_map, List.getElem?_range, hh]
  simp
theorem upTo_set (f : Nat → Int) (L : List Int) {k : Nat} (hk : k < 24) : (upTo f L k).set k (f k) = upTo f L (k + 1) := by
  apply List.ext_getElem
  · simp [upTo]
  · intro i h1 h2
    simp only [upTo, List.length_map, List.length_range] at h2
    rw [List.getElem_set]
    by_cases e : k = i
    · subst e; simp [upTo]
    · simp only [if_neg e]
      simp only [upTo, List.getElem_map, List.getElem_range]
      by_cases c : i < k
      · rw [if_pos c, if_pos (by omega)]
      · rw [if_neg c, if_neg (by omega)]
theorem upTo_same (f : Nat → Int) (L : List Int) {k : Nat} (h : f k = L.getD k 0) : upTo f L (k + 1) = upTo f L k := by
  unfold upTo
  apply List.map_congr_left
  intro i hi
  by_cases c : i < k
  · rw [if_pos c, if_pos (by omega)]
  · by_cases e : i = k
    · subst e; rw [if_pos (Nat.lt_succ_self _), if_neg (Nat.lt_irrefl _), h]
    · rw [if_neg c, if_neg (by omega)]
/-! The least and the greatest, as laws. -/
theorem foldmin : ∀ (r : List Int) (x : Int), (r.foldl (fun a b => if b < a then b else a) x) ≤ x ∧ (∀ y ∈ r, (r.foldl (fun a b => if b < a then b else a) x) ≤ y) ∧ ((r.foldl (fun a b => if b < a then b else a) x) = x ∨ (r.foldl (fun a b => if b < a then b else a) x) ∈ r)
  | [], x => ⟨Int.le_refl _, fun y h => by simp at h, .inl rfl⟩
  | z :: r, x => by
    obtain ⟨h1, h2, h3⟩ := foldmin r (if z < x then z else x)
    simp only [List.foldl_cons]
    generalize List.foldl (fun a b => if b < a then b else a) (if z < x then z else x) r = m at *
    refine ⟨by split at h1 <;> omega, ?_, ?_⟩
    · intro y hy
      rcases List.mem_cons.1 hy with rfl | hy
      · split at h1 <;> omega
      · exact h2 y hy
    · rcases h3 with h3 | h3
      · split at h3
        · exact .inr (by simp [h3])
        · exact .inl h3
      · exact .inr (by simp [h3])
theorem foldmax : ∀ (r : List Int) (x : Int), x ≤ (r.foldl (fun a b => if a < b then b else a) x) ∧ (∀ y ∈ r, y ≤ (r.foldl (fun a b => if a < b then b else a) x)) ∧ ((r.foldl (fun a b => if a < b then b else a) x) = x ∨ (r.foldl (fun a b => if a < b then b else a) x) ∈ r)
  | [], x => ⟨Int.le_refl _, fun y h => by simp at h, .inl rfl⟩
  | z :: r, x => by
    obtain ⟨h1, h2, h3⟩ := foldmax r (if x < z then z else x)
    simp only [List.foldl_cons]
    generalize List.foldl (fun a b => if a < b then b else a) (if x < z then z else x) r = m at *
    refine ⟨by split at h1 <;> omega, ?_, ?_⟩
    · intro y hy
      rcases List.mem_cons.1 hy with rfl | hy
      · split at h1 <;> omega
      · exact h2 y hy
    · rcases h3 with h3 | h3
      · split at h3
        · exact .inr (by simp [h3])
        · exact .inl h3
      · exact .inr (by simp [h3])
theorem minL_mem {xs : List Int} (h : 0 < xs.length) : minL xs ∈ xs := by
  cases xs with
  | nil => simp at h
  | cons x r => rcases (foldmin r x).2.2 with e | e <;> unfold minL <;> simp [e]
theorem maxL_mem {xs : List Int} (h : 0 < xs.length) : maxL xs ∈ xs := by
  cases xs with
  | nil => simp at h
  | cons x r => rcases (foldmax r x).2.2 with e | e <;> unfold maxL <;> simp [e]
theorem minL_le {xs : List Int} {y : Int} (h : y ∈ xs) : minL xs ≤ y := by
  cases xs with
  | nil => simp at h
  | cons x r =>
    rcases List.mem_cons.1 h with rfl | h
    · exact (foldmin r y).1
    · exact (foldmin r x).2.1 y h
theorem le_maxL {xs : List Int} {y : Int} (h : y ∈ xs) : y ≤ maxL xs := by
  cases xs with
  | nil => simp at h
  | cons x r =>
    rcases List.mem_cons.1 h with rfl | h
    · exact (foldmax r y).1
    · exact (foldmax r x).2.1 y h
theorem rowsAt_all (a : Arc) (l : List Obs) {k : Nat} (hk : k < 24) : rowsAt a l l.length k = seenAt a l k := by
  unfold rowsAt; rw [if_pos hk, List.take_length]
theorem rowsAt_strays (a : Arc) (l : List Obs) : rowsAt a l l.length 24 = straysOf a l := by
  unfold rowsAt; rw [if_neg (by omega), List.take_length]
theorem seen_mem {a : Arc} {l : List Obs} {h : Nat} {t : Int} (ht : t ∈ seenAt a l h) : ∃ o ∈ l, insideB a o = true ∧ hour o.s = h ∧ o.t = t := by
  unfold seenAt at ht
  obtain ⟨o, ho, rfl⟩ := List.mem_map.1 ht
  obtain ⟨h1, h2⟩ := List.mem_filter.1 ho
  simp only [Bool.and_eq_true, beq_iff_eq] at h2
  exact ⟨o, h1, h2.1, h2.2, rfl⟩
theorem seen_ok {a : Arc} {l : List Obs} (ok : l.all Obs.okB = true) {h : Nat} {t : Int} (ht : t ∈ seenAt a l h) : a.L.getD h 0 ≤ t ∧ t ≤ a.H.getD h 0 ∧ 0 ≤ t ∧ t ≤ 10000 := by
  obtain ⟨o, ho, h1, rfl, rfl⟩ := seen_mem ht
  rw [List.all_eq_true] at ok
  have := okB_true (ok o ho)
  unfold insideB at h1
  simp at h1
  simp
  omega
def Arc.tight (a : Arc) (l : List Obs) : Arc := ⟨a.f, a.t, upTo (lowAt a l) a.L 24, upTo (highAt a l) a.H 24⟩
end Go.Proofs.Ytaffcpdkmhpckaa
