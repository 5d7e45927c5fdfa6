/- The plain laws of layer 42 (post), 3: texts that are sent in addition; no program in sight. -/
import Derived.Test.YtiahbkjomegkiaaPlainPost2
namespace Go.Proofs.Ytiahbkjomegkiaa
set_option linter.unusedSimpArgs false
set_option linter.unusedVariables false
theorem right_more {S M : List ByteArray} {n : Int} {E : List Int} (h : IsRight (S, n, E)) (hM : S.length + M.length ≤ 10000) : IsRight (S ++ M, n, E) := by
  have h1 := h.few
  have h2 := h.low
  have h3 := h.high
  dsimp only at h1 h2 h3
  refine ⟨by rw [List.length_append]; omega, h2, ?_, h.ord, fun e he => ?_⟩
  · dsimp only; rw [List.length_append]; omega
  · have := h.mem e he
    dsimp only at this ⊢
    rw [List.length_append]; omega
theorem arrive_right {S : List ByteArray} {n : Int} {E : List Int} (h : IsRight (S, n, E)) (q : Int) : arriveF (S, n, E) q =
    if q < 0 ∨ (S.length : Int) ≤ q then (dWay, [], 4) else if q ∈ E ∨ q < n then (dWay, [], 5) else if n < q then ((S, n, insE E q), [], 0)
    else ((S, n + 1 + runE (n + 1) E, E.drop (runE (n + 1) E)), (S.take (n + 1 + runE (n + 1) E).toNat).drop n.toNat, 0) := by
  unfold arriveF
  rw [if_neg (by rw [rightW_iff.2 h]; simp)]
/-- What arrives does the same when more was sent. -/
theorem later_step {S M : List ByteArray} {n : Int} {E : List Int} (h : IsRight (S, n, E)) (hM : S.length + M.length ≤ 10000) {q : Int} (hq : q < S.length) :
    (arriveF (S ++ M, n, E) q).2 = (arriveF (S, n, E) q).2 ∧ ((arriveF (S, n, E) q).2.2 = 0 → (arriveF (S ++ M, n, E) q).1 = (S ++ M, (arriveF (S, n, E) q).1.2)) := by
  have h2 := h.low
  have h3 := h.high
  dsimp only at h2 h3
  have hl : (S ++ M).length = S.length + M.length := List.length_append
  have hbd : q = n → n + 1 + runE (n + 1) E ≤ S.length := fun e => runE_bd (n := n + 1) (m := S.length) (E := E) (fun e he => (h.mem e he).2) (by omega)
  rw [arrive_right h, arrive_right (right_more h hM), hl]
  by_cases c1 : q < 0
  · have n1 : q < 0 ∨ (S.length : Int) ≤ q := .inl c1
    have n2 : q < 0 ∨ ((S.length + M.length : Nat) : Int) ≤ q := .inl c1
    rw [if_pos n1, if_pos n2]
    exact ⟨rfl, fun h => absurd h (by decide)⟩
  have n1 : ¬ (q < 0 ∨ (S.length : Int) ≤ q) := by omega
  have n2 : ¬ (q < 0 ∨ ((S.length + M.length : Nat) : Int) ≤ q) := by omega
  rw [if_neg n1, if_neg n2]
  by_cases c2 : q ∈ E ∨ q < n
  · rw [if_pos c2, if_pos c2]
    exact ⟨rfl, fun h => absurd h (by decide)⟩
  rw [if_neg c2, if_neg c2]
  by_cases c3 : n < q
  · rw [if_pos c3, if_pos c3]
    exact ⟨rfl, fun _ => rfl⟩
  rw [if_neg c3, if_neg c3]
  have hqn : q = n := by rw [not_or] at c2; omega
  have := hbd hqn
  rw [List.take_append_of_le_length (by omega)]
  exact ⟨rfl, fun _ => rfl⟩
theorem flight_len {w : DWay} (h : IsRight w) : (flightF w).length = w.1.length - w.2.1.toNat := by
  unfold flightF
  rw [if_neg (by rw [rightW_iff.2 h]; simp), List.length_drop]
/-- What was delivered. -/
theorem Arrived.outlen {w v : DWay} {q : Int} {out : List ByteArray} (h : Arrived w q v out) (hw : IsRight w) : (out.length : Int) = v.2.1 - w.2.1 := by
  have h1 := h.right.high
  have h2 := hw.low
  have h3 := h.le
  rw [h.same] at h1
  rw [h.out, List.length_drop, List.length_take]
  omega
end Go.Proofs.Ytiahbkjomegkiaa
