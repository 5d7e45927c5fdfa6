/- The plain laws of layer 42 (post), 2: what is sent again; no program in sight. -/
import Derived.Test.YtiahbkjomegkiaaPlainPost2
namespace Go.Proofs.Ytiahbkjomegkiaa
set_option linter.unusedSimpArgs false
set_option linter.unusedVariables false
theorem mem_missTo {w : DWay} {k : Nat} {x : Int} (h0 : 0 ≤ w.2.1) : x ∈ missTo w k ↔ (w.2.1 ≤ x ∧ x < w.2.1 + k) ∧ x ∉ w.2.2 := by
  unfold missTo
  rw [List.mem_filter, List.mem_map, decide_eq_true_eq]
  refine and_congr_left fun _ => ?_
  constructor
  · rintro ⟨a, ha, rfl⟩
    rw [List.mem_range'_1] at ha
    omega
  · rintro h
    exact ⟨x.toNat, by rw [List.mem_range'_1]; omega, by omega⟩
theorem again_mem {w : DWay} (h : IsRight w) {x : Int} : x ∈ againF w ↔ (0 ≤ x ∧ x < w.1.length) ∧ ¬ arr w x := by
  have h2 := h.low
  have h3 := h.high
  unfold againF
  rw [if_neg (by rw [rightW_iff.2 h]; simp), mem_missTo h2]
  unfold arr
  constructor
  · rintro ⟨h4, h5⟩
    refine ⟨by omega, ?_⟩
    rintro (q | q)
    · omega
    · exact h5 q
  · rintro ⟨h4, h5⟩
    rw [not_or] at h5
    exact ⟨by omega, h5.2⟩
theorem again_pair (w : DWay) : (againF w).Pairwise (· < ·) := by
  unfold againF
  split
  · exact List.Pairwise.nil
  · unfold missTo
    refine List.Pairwise.sublist List.filter_sublist ?_
    rw [List.pairwise_map]
    exact List.Pairwise.imp (fun q => Int.ofNat_lt.2 q) (List.pairwise_lt_range' ..)
theorem again_len {w : DWay} (h : IsRight w) : (againF w).length ≤ w.1.length := by
  unfold againF
  rw [if_neg (by rw [rightW_iff.2 h]; simp)]
  have := missTo_len w (w.1.length - w.2.1.toNat)
  omega
/-- The number that is sent again as the i-th, turned by t. -/
def turned (l : List Int) (t i : Nat) : Int := l.getD ((i + t) % l.length) 0
theorem turned_mem {l : List Int} {t i : Nat} (h : 0 < l.length) : turned l t i ∈ l := mem_of_getD (Nat.mod_lt _ h)
theorem mod_inj {L t i j : Nat} (hi : i < L) (hj : j < i) : (i + t) % L ≠ (j + t) % L := fun h => by
  have := Nat.sub_mod_eq_zero_of_mod_eq h
  rw [show i + t - (j + t) = i - j by omega, Nat.mod_eq_of_lt (by omega)] at this
  omega
theorem mod_sur {L t p : Nat} (hp : p < L) : ∃ i, i < L ∧ (i + t) % L = p := by
  have hL : 0 < L := by omega
  refine ⟨(p + (L - t % L)) % L, Nat.mod_lt _ hL, ?_⟩
  have h1 := Nat.mod_lt t hL
  have h2 := Nat.mod_add_div t L
  rw [Nat.mod_add_mod]
  have : p + (L - t % L) + t = p + L * (t / L + 1) := by rw [Nat.mul_add, Nat.mul_one]; omega
  rw [this, Nat.add_mul_mod_self_left]
  exact Nat.mod_eq_of_lt hp
theorem turned_inj {l : List Int} {t i j : Nat} (hl : l.Pairwise (· < ·)) (hi : i < l.length) (hj : j < i) : turned l t i ≠ turned l t j := fun h => by
  have hL : 0 < l.length := by omega
  have h1 := Nat.mod_lt (i + t) hL
  have h2 := Nat.mod_lt (j + t) hL
  have h3 := mod_inj (t := t) hi hj
  unfold turned at h
  rw [List.pairwise_iff_getElem] at hl
  simp only [List.getD, List.getElem?_eq_getElem, h1, h2, Option.getD_some] at h
  rcases Nat.lt_or_gt_of_ne h3 with c | c
  · have := hl _ _ h1 h2 c; omega
  · have := hl _ _ h2 h1 c; omega
/-- What holds when i of the messages to be sent again have arrived. -/
structure AgainTo (w0 w : DWay) (t i : Nat) (got : List ByteArray) : Prop where
  right : IsRight w
  same : w.1 = w0.1
  le : w0.2.1 ≤ w.2.1
  got : got = (w.1.take w.2.1.toNat).drop w0.2.1.toNat
  arr : ∀ k, arr w k ↔ arr w0 k ∨ ∃ j, j < i ∧ k = turned (againF w0) t j
theorem again_start {w0 : DWay} (h : IsRight w0) (t : Nat) : AgainTo w0 w0 t 0 [] :=
  ⟨h, rfl, Int.le_refl _, (List.drop_of_length_le (by rw [List.length_take]; omega)).symm, fun k => by simp⟩
theorem take_drop_more {S : List ByteArray} {a b c : Nat} (h : a ≤ b) (h' : b ≤ c) (hc : c ≤ S.length) : (S.take b).drop a ++ (S.take c).drop b = (S.take c).drop a := by
  have h1 : S.take c = S.take b ++ (S.take c).drop b := (take_more h').symm
  have h2 : (S.take c).drop a = (S.take b ++ (S.take c).drop b).drop a := by rw [← h1]
  rw [h2, List.drop_append_of_le_length (by rw [List.length_take]; omega)]
theorem again_step {w0 w : DWay} {t i : Nat} {got : List ByteArray} (h0 : IsRight w0) (h : AgainTo w0 w t i got) (hi : i < (againF w0).length) :
    (arriveF w (turned (againF w0) t i)).2.2 = 0 ∧
    (arriveF (arriveF w (turned (againF w0) t i)).1 (turned (againF w0) t i)).2 = ([], 5) ∧
    AgainTo w0 (arriveF w (turned (againF w0) t i)).1 t (i + 1) (got ++ (arriveF w (turned (againF w0) t i)).2.1) := by
  have hm := (again_mem h0).1 (turned_mem (l := againF w0) (t := t) (i := i) (by omega))
  have hno : ¬ arr w (turned (againF w0) t i) := fun q => by
    rcases (h.arr _).1 q with q | ⟨j, hj, e⟩
    · exact hm.2 q
    · exact turned_inj (again_pair w0) hi hj e
  have hsame := h.same
  have hin : ¬ (turned (againF w0) t i < 0 ∨ (w.1.length : Int) ≤ turned (againF w0) t i) := by rw [hsame]; omega
  rcases arrive_spec h.right (turned (againF w0) t i) with ⟨e1, ha⟩ | ⟨_, _, c⟩ | ⟨_, _, _, c⟩
  rotate_left
  · exact absurd c hin
  · exact absurd c hno
  refine ⟨e1, ?_, ?_⟩
  · have ha1 : arr (arriveF w (turned (againF w0) t i)).1 (turned (againF w0) t i) := (ha.arr _).2 (.inr rfl)
    have hs := ha.same
    rcases arrive_spec ha.right (turned (againF w0) t i) with ⟨_, ha2⟩ | ⟨_, _, c⟩ | ⟨e2, e3, _, _⟩
    · exact absurd ha1 ha2.no
    · exact absurd (by rw [hs] at c; exact c) hin
    · exact Prod.ext e3 e2
  · have hs := ha.same
    have hl := ha.le
    have hle := h.le
    have hr := ha.right
    have hh := hr.high
    have hlo := h.right.low
    refine ⟨hr, hs.trans hsame, by omega, ?_, fun k => ?_⟩
    · rw [ha.out, hs, h.got]
      refine take_drop_more (by omega) (by omega) ?_
      rw [← hs]; omega
    · rw [ha.arr, h.arr, or_assoc]
      refine or_congr_right ?_
      constructor
      · rintro (⟨j, hj, e⟩ | e)
        · exact ⟨j, by omega, e⟩
        · exact ⟨i, by omega, e⟩
      · rintro ⟨j, hj, e⟩
        by_cases c : j = i
        · subst c; exact .inr e
        · exact .inl ⟨j, by omega, e⟩
theorem again_end {w0 w : DWay} {t : Nat} {got : List ByteArray} (h0 : IsRight w0) (h : AgainTo w0 w t (againF w0).length got) :
    got = flightF w0 ∧ flightF w = [] ∧ againF w = [] ∧ w.2.1 = w.1.length := by
  have hall : ∀ k, 0 ≤ k → k < (w.1.length : Int) → arr w k := fun k h1 h2 => by
    rw [h.same] at h2
    rw [h.arr]
    by_cases c : arr w0 k
    · exact .inl c
    · obtain ⟨p, hp, e⟩ := getD_of_mem ((again_mem h0).2 ⟨⟨h1, h2⟩, c⟩)
      obtain ⟨i, hi, e2⟩ := mod_sur (t := t) hp
      exact .inr ⟨i, hi, by unfold turned; rw [e2]; exact e.symm⟩
  have hr := h.right
  have h2 := hr.low
  have h3 := hr.high
  have hn : w.2.1 = w.1.length := by
    by_cases c : w.2.1 = w.1.length
    · exact c
    · rcases hall w.2.1 h2 (by omega) with q | q
      · omega
      · have := hr.mem _ q; omega
  have ht : w.1.take w.2.1.toNat = w.1 := by rw [hn]; exact List.take_of_length_le (by omega)
  refine ⟨?_, ?_, ?_, hn⟩
  · rw [h.got, ht, h.same]
    unfold flightF
    rw [if_neg (by rw [rightW_iff.2 h0]; simp)]
  · unfold flightF
    rw [if_neg (by rw [rightW_iff.2 hr]; simp)]
    exact List.drop_of_length_le (by omega)
  · unfold againF
    rw [if_neg (by rw [rightW_iff.2 hr]; simp), show w.1.length - w.2.1.toNat = 0 by omega]
    rfl
end Go.Proofs.Ytiahbkjomegkiaa
