/- The plain mathematics of layer 14 (gauge), more: the narrower arc is valid; what is inside stays inside. -/
import Derived.Test.YtaffcpdkmhpckaaPlainGauge
namespace Go.Proofs.Ytaffcpdkmhpckaa
set_option linter.unusedVariables false
set_option linter.unusedSimpArgs false
theorem lowAt_ge (a : Arc) (l : List Obs) (h : Nat) : a.L.getD h 0 ≤ lowAt a l h := by unfold lowAt; split <;> (try split) <;> omega
theorem highAt_le (a : Arc) (l : List Obs) (h : Nat) : highAt a l h ≤ a.H.getD h 0 := by unfold highAt; split <;> (try split) <;> omega
theorem seen_pos {a : Arc} {l : List Obs} {h : Nat} (hn : 5 ≤ (seenAt a l h).length) : 0 < (seenAt a l h).length := by omega
theorem low_high {a : Arc} {l : List Obs} {h : Nat} (hr : a.L.getD h 0 ≤ a.H.getD h 0) (ok : l.all Obs.okB = true) : lowAt a l h ≤ highAt a l h := by
  unfold lowAt highAt
  split
  · rename_i hn
    have m1 := seen_ok ok (minL_mem (seen_pos hn))
    have m2 := seen_ok ok (maxL_mem (seen_pos hn))
    have m3 := minL_le (maxL_mem (seen_pos hn))
    split <;> split <;> omega
  · exact hr
theorem tight_L {a : Arc} {l : List Obs} {h : Nat} (hh : h < 24) : (a.tight l).L.getD h 0 = lowAt a l h := by
  unfold Arc.tight; simp only; rw [upTo_get _ _ _ hh, if_pos hh]
theorem tight_H {a : Arc} {l : List Obs} {h : Nat} (hh : h < 24) : (a.tight l).H.getD h 0 = highAt a l h := by
  unfold Arc.tight; simp only; rw [upTo_get _ _ _ hh, if_pos hh]
theorem tight_right {a : Arc} {l : List Obs} (hr : a.right) (ok : l.all Obs.okB = true) : (a.tight l).right := by
  obtain ⟨h1, h2, h3, h4, h5⟩ := hr
  refine ⟨h1, h2, upTo_len _ _ _, upTo_len _ _ _, fun h hh => ?_⟩
  obtain ⟨q1, q2, q3⟩ := h5 h hh
  unfold ok1
  rw [tight_L hh, tight_H hh]
  have := lowAt_ge a l h
  have := highAt_le a l h
  have := low_high q2 ok
  omega
theorem right_mem {a : Arc} (hr : a.right) : (∀ x ∈ a.L, 0 ≤ x ∧ x ≤ 600) ∧ ∀ x ∈ a.H, 0 ≤ x ∧ x ≤ 600 := by
  obtain ⟨h1, h2, h3, h4, h5⟩ := hr
  constructor
  · intro x hx
    obtain ⟨i, hi⟩ := List.getElem?_of_mem hx
    have hlt := (List.getElem?_eq_some_iff.1 hi).1
    have := h5 i (by omega)
    unfold ok1 at this
    simp only [List.getD_eq_getElem?_getD, hi, Option.getD_some] at this
    omega
  · intro x hx
    obtain ⟨i, hi⟩ := List.getElem?_of_mem hx
    have hlt := (List.getElem?_eq_some_iff.1 hi).1
    have := h5 i (by omega)
    unfold ok1 at this
    simp only [List.getD_eq_getElem?_getD, hi, Option.getD_some] at this
    omega
theorem straysFrom_mem (a : Arc) : ∀ (l : List Obs) (k : Nat), ∀ x ∈ straysFrom a k l, (k : Int) ≤ x ∧ x < k + l.length
  | [], _, x, h => by simp [straysFrom] at h
  | o :: r, k, x, h => by
    have ih := straysFrom_mem a r (k + 1)
    unfold straysFrom at h
    simp only [List.length_cons]
    split at h
    · have := ih x h; omega
    · rcases List.mem_cons.1 h with rfl | h
      · omega
      · have := ih x h; omega
end Go.Proofs.Ytaffcpdkmhpckaa
