/- The plain mathematics of layer 14 (gauge), for the laws: counts, strays, and what is inside. -/
import Derived.Test.YtaffcpdkmhpckaaPlainGauge2
namespace Go.Proofs.Ytaffcpdkmhpckaa
set_option linter.unusedVariables false
set_option linter.unusedSimpArgs false
/-- How many of the first k observations are inside, an hour each. -/
def cnt (a : Arc) (l : List Obs) (k : Nat) : List Int := (List.range 24).map fun h => ((rowsAt a l k h).length : Int)
theorem cnt_len (a : Arc) (l : List Obs) (k : Nat) : (cnt a l k).length = 24 := by simp [cnt]
theorem cnt_get (a : Arc) (l : List Obs) (k : Nat) {h : Nat} (hh : h < 24) : (cnt a l k).getD h 0 = ((rowsAt a l k h).length : Int) := by
  simp [cnt, List.getD_eq_getElem?_getD, hh]
theorem cnt_zero (a : Arc) (l : List Obs) : cnt a l 0 = List.replicate 24 0 := by
  unfold cnt
  rw [rowsAt_zero]
  rfl
theorem cnt_in {a : Arc} {l : List Obs} {k : Nat} (hk : k < l.length) (hi : insideB a (l.getD k default) = true) :
    (cnt a l k).set (hour (l.getD k default).s) ((cnt a l k).getD (hour (l.getD k default).s) 0 + 1) = cnt a l (k + 1) := by
  have hh := hour_lt (l.getD k default).s
  rw [cnt_get _ _ _ hh]
  apply List.ext_getElem
  · simp [cnt]
  · intro i h1 h2'
    have h2 := h2'
    rw [cnt_len] at h2
    have e1 : (cnt a l (k + 1))[i]'h2' = ((rowsAt a l (k + 1) i).length : Int) := by simp [cnt]
    have e2 : (cnt a l k)[i]'(by rw [cnt_len]; exact h2) = ((rowsAt a l k i).length : Int) := by simp [cnt]
    rw [List.getElem_set, e1, e2, rowsAt_seen hk hi i]
    by_cases e : hour (l.getD k default).s = i
    · rw [if_pos e, if_pos e.symm, e]; simp
    · rw [if_neg e, if_neg (Ne.symm e)]
theorem cnt_out {a : Arc} {l : List Obs} {k : Nat} (hk : k < l.length) (hi : insideB a (l.getD k default) = false) : cnt a l (k + 1) = cnt a l k := by
  unfold cnt
  apply List.map_congr_left
  intro i h
  rw [rowsAt_stray hk hi i, if_pos (List.mem_range.1 h)]
theorem straysFrom_split (a : Arc) : ∀ (k : Nat) (l : List Obs) (j : Nat), straysFrom a j l = straysFrom a j (l.take k) ++ straysFrom a (j + k) (l.drop k)
  | 0, l, j => by simp [straysFrom]
  | k + 1, [], j => by simp [straysFrom]
  | k + 1, o :: r, j => by
    have ih := straysFrom_split a k r (j + 1)
    simp only [List.take_succ_cons, List.drop_succ_cons, straysFrom]
    rw [show j + (k + 1) = j + 1 + k by omega]
    split
    · exact ih
    · rw [ih]; rfl
theorem stray_at {a : Arc} {l : List Obs} {k : Nat} (hk : k < l.length) (hi : insideB a (l.getD k default) = false) :
    (straysOf a (l.take k)).length < (straysOf a l).length ∧ (straysOf a l).getD (straysOf a (l.take k)).length 0 = (k : Int) := by
  have e : l.drop k = l.getD k default :: l.drop (k + 1) := by
    rw [List.drop_eq_getElem_cons hk, List.getD_eq_getElem?_getD, List.getElem?_eq_getElem hk]; rfl
  have s : straysOf a l = straysOf a (l.take k) ++ (k : Int) :: straysFrom a (k + 1) (l.drop (k + 1)) := by
    unfold straysOf
    rw [straysFrom_split a k l 0, e]
    simp only [straysFrom, hi, Nat.zero_add]
    rfl
  rw [s]
  constructor
  · simp
  · simp [List.getD_eq_getElem?_getD]
theorem strays_in {a : Arc} {l : List Obs} {k : Nat} (hk : k < l.length) (hi : insideB a (l.getD k default) = true) : straysOf a (l.take (k + 1)) = straysOf a (l.take k) := by
  rw [take_snoc hk]; unfold straysOf; rw [straysFrom_snoc, hi]; simp
theorem strays_out {a : Arc} {l : List Obs} {k : Nat} (hk : k < l.length) (hi : insideB a (l.getD k default) = false) : (straysOf a (l.take (k + 1))).length = (straysOf a (l.take k)).length + 1 := by
  rw [take_snoc hk]; unfold straysOf; rw [straysFrom_snoc, hi]; simp
theorem seen_of {a : Arc} {l : List Obs} {o : Obs} (ho : o ∈ l) (hi : insideB a o = true) : o.t ∈ seenAt a l (hour o.s) := by
  unfold seenAt
  exact List.mem_map.2 ⟨o, List.mem_filter.2 ⟨ho, by simp [hi]⟩, rfl⟩
/-- What was inside stays inside, what was outside stays outside. -/
theorem tight_inside {a : Arc} {l : List Obs} {o : Obs} (ho : o ∈ l) : insideB (a.tight l) o = insideB a o := by
  have hh := hour_lt o.s
  have g1 := lowAt_ge a l (hour o.s)
  have g2 := highAt_le a l (hour o.s)
  unfold insideB
  rw [tight_L hh, tight_H hh]
  by_cases c : insideB a o = true
  · have m := seen_of ho c
    have m1 := minL_le m
    have m2 := le_maxL m
    unfold insideB at c
    simp only [Bool.and_eq_true, decide_eq_true_eq] at c
    have k1 : lowAt a l (hour o.s) ≤ o.t := by unfold lowAt; split <;> (try split) <;> omega
    have k2 : o.t ≤ highAt a l (hour o.s) := by unfold highAt; split <;> (try split) <;> omega
    rw [decide_eq_true k1, decide_eq_true k2, decide_eq_true c.1, decide_eq_true c.2]
  · unfold insideB at c
    simp only [Bool.and_eq_true, decide_eq_true_eq] at c
    rw [Bool.eq_iff_iff]
    simp only [Bool.and_eq_true, decide_eq_true_eq]
    omega
theorem low_changed {a : Arc} {l : List Obs} {h : Nat} (c : lowAt a l h ≠ a.L.getD h 0) : 5 ≤ (seenAt a l h).length := by
  unfold lowAt at c; split at c
  · assumption
  · exact absurd rfl c
theorem high_changed {a : Arc} {l : List Obs} {h : Nat} (c : highAt a l h ≠ a.H.getD h 0) : 5 ≤ (seenAt a l h).length := by
  unfold highAt at c; split at c
  · assumption
  · exact absurd rfl c
end Go.Proofs.Ytaffcpdkmhpckaa
