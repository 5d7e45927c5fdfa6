/- The plain mathematics of layer 40 (stock), 2: where a phone's loan is; no program in sight. -/
import Derived.Test.YtbbpiihbhdagnaaPlainStock
import Derived.Test.YtbbpiihbhdagnaaPlainPost
namespace Go.Proofs.Ytbbpiihbhdagnaa
set_option linter.unusedSimpArgs false
set_option linter.unusedVariables false
def phones (L : List DLoan) : List Int := L.map (·.1)
def posL (q : Int) (L : List DLoan) : Nat := posF q (phones L)
def cmpI (a b : Int) : Int := if a < b then -1 else if b < a then 1 else 0
def cmpL (l : DLoan) (q : Int) : Int := cmpI l.1 q
theorem phones_len (L : List DLoan) : (phones L).length = L.length := List.length_map _
theorem phones_getD (L : List DLoan) (k : Nat) : (phones L).getD k 0 = (L.getD k (0, 0, 0)).1 := by
  unfold phones
  simp only [List.getD, List.getElem?_map]
  cases L[k]? <;> rfl
theorem okL_pair : ∀ {L : List DLoan} {free last : Int}, okL free last L = true → (phones L).Pairwise (· < ·) ∧ ∀ x ∈ phones L, last < x ∧ x < 12
  | [], _, _, _ => ⟨List.Pairwise.nil, fun x hx => absurd hx List.not_mem_nil⟩
  | l :: r, free, last, h => by
    unfold okL at h
    simp only [Bool.and_eq_true, Bool.not_eq_true', decide_eq_false_iff_not] at h
    have h1 := h.1
    unfold badL at h1
    obtain ⟨i1, i2⟩ := okL_pair h.2
    unfold phones at i1 i2 ⊢
    rw [List.map_cons]
    refine ⟨List.Pairwise.cons (fun x hx => (i2 x hx).1) i1, fun x hx => ?_⟩
    rcases List.mem_cons.1 hx with rfl | hx
    · omega
    · have := i2 x hx; omega
theorem right_pair {s : DStk} (h : rightS s = true) : (phones s.2.2).Pairwise (· < ·) := (okL_pair (right_spec h).2).1
def fitsF (s : DStk) (q v : Int) : Bool := ((((rightS s && decide (q ≥ 0)) && decide (q < 12)) && decide (v ≥ 1)) && decide (v ≤ 1000000000000000))
theorem phones_mono {L : List DLoan} (hp : (phones L).Pairwise (· < ·)) {a b : Nat} (hab : a < b) (hb : b < L.length) : (phones L).getD a 0 < (phones L).getD b 0 := by
  have hl := phones_len L
  have := (List.pairwise_iff_getElem.1 hp) a b (by omega) (by omega) hab
  simpa [List.getD, show b < (phones L).length by omega, show a < (phones L).length by omega] using this
theorem pos_at {L : List DLoan} (hp : (phones L).Pairwise (· < ·)) {k : Nat} {q : Int} (hk : k < L.length) (e : (phones L).getD k 0 = q) : posL q L = k := by
  have hl := phones_len L
  refine posF_at (by omega) (fun i hi => ?_) fun i h1 h2 => ?_
  · have := phones_mono hp hi hk; omega
  · by_cases c : i = k
    · subst c; omega
    · have := phones_mono hp (show k < i by omega) (by omega); omega
theorem not_phone {L : List DLoan} {q : Int} (h : ∀ k, k < L.length → (phones L).getD k 0 ≠ q) : q ∉ phones L := fun hq => by
  obtain ⟨k, hk, e⟩ := getD_of_mem hq
  rw [phones_len] at hk
  exact h k hk e
theorem phone_in {L : List DLoan} {k : Nat} (h : k < L.length) : (phones L).getD k 0 ∈ phones L := mem_of_getD (by rw [phones_len]; exact h)
end Go.Proofs.Ytbbpiihbhdagnaa
