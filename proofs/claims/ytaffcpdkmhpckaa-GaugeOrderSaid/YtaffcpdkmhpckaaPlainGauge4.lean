/- The plain mathematics of layer 14 (gauge), for the laws: other orders, the same once more, further observations. -/
import Derived.Test.YtaffcpdkmhpckaaPlainGauge3
namespace Go.Proofs.Ytaffcpdkmhpckaa
set_option linter.unusedVariables false
set_option linter.unusedSimpArgs false
theorem minL_perm {xs ys : List Int} (p : xs.Perm ys) : minL xs = minL ys := by
  by_cases h : 0 < xs.length
  · have h' : 0 < ys.length := by rw [← p.length_eq]; exact h
    exact Int.le_antisymm (minL_le (p.mem_iff.2 (minL_mem h'))) (minL_le (p.mem_iff.1 (minL_mem h)))
  · have e1 : xs = [] := List.eq_nil_of_length_eq_zero (by omega)
    subst e1
    rw [p.nil_eq]
theorem maxL_perm {xs ys : List Int} (p : xs.Perm ys) : maxL xs = maxL ys := by
  by_cases h : 0 < xs.length
  · have h' : 0 < ys.length := by rw [← p.length_eq]; exact h
    exact Int.le_antisymm (le_maxL (p.mem_iff.1 (maxL_mem h))) (le_maxL (p.mem_iff.2 (maxL_mem h')))
  · have e1 : xs = [] := List.eq_nil_of_length_eq_zero (by omega)
    subst e1
    rw [p.nil_eq]
theorem seen_perm (a : Arc) {l m : List Obs} (p : l.Perm m) (h : Nat) : (seenAt a l h).Perm (seenAt a m h) := (p.filter _).map _
theorem low_perm (a : Arc) {l m : List Obs} (p : l.Perm m) (h : Nat) : lowAt a l h = lowAt a m h := by
  unfold lowAt
  rw [(seen_perm a p h).length_eq, minL_perm (seen_perm a p h)]
theorem high_perm (a : Arc) {l m : List Obs} (p : l.Perm m) (h : Nat) : highAt a l h = highAt a m h := by
  unfold highAt
  rw [(seen_perm a p h).length_eq, maxL_perm (seen_perm a p h)]
theorem tight_perm (a : Arc) {l m : List Obs} (p : l.Perm m) : a.tight l = a.tight m := by
  unfold Arc.tight
  have e1 : lowAt a l = lowAt a m := funext fun h => low_perm a p h
  have e2 : highAt a l = highAt a m := funext fun h => high_perm a p h
  rw [e1, e2]
theorem right_perm {l m : List Obs} (p : l.Perm m) : obsRightB l = obsRightB m := by
  unfold obsRightB
  rw [p.length_eq]
  congr 1
  rw [Bool.eq_iff_iff]
  simp only [List.all_eq_true]
  exact ⟨fun h x hx => h x (p.mem_iff.2 hx), fun h x hx => h x (p.mem_iff.1 hx)⟩
theorem seen_tight (a : Arc) (l : List Obs) (h : Nat) : seenAt (a.tight l) l h = seenAt a l h := by
  unfold seenAt
  congr 1
  apply List.filter_congr
  intro o ho
  rw [tight_inside ho]
theorem low_again (a : Arc) (l : List Obs) {h : Nat} (hh : h < 24) : lowAt (a.tight l) l h = lowAt a l h := by
  have e := tight_L (a := a) (l := l) hh
  show (if 5 ≤ (seenAt (a.tight l) l h).length then _ else _) = _
  rw [seen_tight, e]
  unfold lowAt
  split
  · split <;> (try split) <;> omega
  · rfl
theorem high_again (a : Arc) (l : List Obs) {h : Nat} (hh : h < 24) : highAt (a.tight l) l h = highAt a l h := by
  have e := tight_H (a := a) (l := l) hh
  show (if 5 ≤ (seenAt (a.tight l) l h).length then _ else _) = _
  rw [seen_tight, e]
  unfold highAt
  split
  · split <;> (try split) <;> omega
  · rfl
theorem upTo_again {f g : Nat → Int} {L M : List Int} (h : ∀ i, i < 24 → f i = g i) : upTo f L 24 = upTo g M 24 := by
  unfold upTo
  apply List.map_congr_left
  intro i hi
  rw [if_pos (List.mem_range.1 hi), if_pos (List.mem_range.1 hi), h i (List.mem_range.1 hi)]
/-- The same observations once more change nothing. -/
theorem tight_again (a : Arc) (l : List Obs) : (a.tight l).tight l = a.tight l := by
  show (⟨a.f, a.t, upTo (lowAt (a.tight l) l) (a.tight l).L 24, upTo (highAt (a.tight l) l) (a.tight l).H 24⟩ : Arc) = ⟨a.f, a.t, upTo (lowAt a l) a.L 24, upTo (highAt a l) a.H 24⟩
  rw [upTo_again (M := a.L) fun i hi => low_again a l hi, upTo_again (M := a.H) fun i hi => high_again a l hi]
theorem straysFrom_congr {a b : Arc} : ∀ (l : List Obs) (k : Nat), (∀ o ∈ l, insideB a o = insideB b o) → straysFrom a k l = straysFrom b k l
  | [], _, _ => rfl
  | o :: r, k, h => by
    unfold straysFrom
    rw [h o (by simp), straysFrom_congr r (k + 1) fun x hx => h x (by simp [hx])]
theorem strays_again (a : Arc) (l : List Obs) : straysOf (a.tight l) l = straysOf a l := straysFrom_congr l 0 fun _ ho => tight_inside ho
/-- With further observations, where there were enough: not narrower. -/
theorem seen_append (a : Arc) (l m : List Obs) (h : Nat) : seenAt a (l ++ m) h = seenAt a l h ++ seenAt a m h := by
  unfold seenAt; rw [List.filter_append, List.map_append]
theorem low_more (a : Arc) (l m : List Obs) {h : Nat} (hn : 5 ≤ (seenAt a l h).length) : lowAt a (l ++ m) h ≤ lowAt a l h := by
  have h1 := minL_le (xs := seenAt a (l ++ m) h) (y := minL (seenAt a l h)) (by rw [seen_append]; exact List.mem_append_left _ (minL_mem (by omega)))
  have h2 : 5 ≤ (seenAt a (l ++ m) h).length := by rw [seen_append, List.length_append]; omega
  unfold lowAt
  rw [if_pos hn, if_pos h2]
  split <;> split <;> omega
theorem high_more (a : Arc) (l m : List Obs) {h : Nat} (hn : 5 ≤ (seenAt a l h).length) : highAt a l h ≤ highAt a (l ++ m) h := by
  have h1 := le_maxL (xs := seenAt a (l ++ m) h) (y := maxL (seenAt a l h)) (by rw [seen_append]; exact List.mem_append_left _ (maxL_mem (by omega)))
  have h2 : 5 ≤ (seenAt a (l ++ m) h).length := by rw [seen_append, List.length_append]; omega
  unfold highAt
  rw [if_pos hn, if_pos h2]
  split <;> split <;> omega
theorem right_append {l m : List Obs} (h : l.length + m.length ≤ 10000) : obsRightB (l ++ m) = (obsRightB l && obsRightB m) := by
  unfold obsRightB
  rw [List.length_append, List.all_append, decide_eq_true h, decide_eq_true (show l.length ≤ 10000 by omega), decide_eq_true (show m.length ≤ 10000 by omega)]
  simp
end Go.Proofs.Ytaffcpdkmhpckaa
