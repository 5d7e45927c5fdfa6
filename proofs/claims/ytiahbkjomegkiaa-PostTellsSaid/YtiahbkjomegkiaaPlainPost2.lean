/- The plain laws of layer 42 (post); no program in sight. -/
import Derived.Test.YtiahbkjomegkiaaPlainPost
namespace Go.Proofs.Ytiahbkjomegkiaa
set_option linter.unusedSimpArgs false
set_option linter.unusedVariables false
/-- Has a message arrived? -/
def arr (w : DWay) (k : Int) : Prop := (0 ≤ k ∧ k < w.2.1) ∨ k ∈ w.2.2
theorem send_spec {w : DWay} (h : IsRight w) (hl : w.1.length < 10000) (e : ByteArray) : sendF w e = ((w.1 ++ [e], w.2.1, w.2.2), 0) ∧ IsRight (w.1 ++ [e], w.2.1, w.2.2) := by
  have hr := rightW_iff.2 h
  refine ⟨by unfold sendF; rw [if_neg (by rw [hr]; simp), if_neg (by omega)], ?_⟩
  have h1 := h.high
  refine ⟨?_, h.low, ?_, h.ord, fun x hx => ?_⟩
  · rw [List.length_append, List.length_singleton]; omega
  · dsimp only; rw [List.length_append, List.length_singleton]; omega
  · have := h.mem x hx
    dsimp only; rw [List.length_append, List.length_singleton]; omega
/-- What an arrival does. -/
structure Arrived (w : DWay) (seq : Int) (v : DWay) (out : List ByteArray) : Prop where
  lo : 0 ≤ seq
  hi : seq < w.1.length
  no : ¬ arr w seq
  right : IsRight v
  same : v.1 = w.1
  le : w.2.1 ≤ v.2.1
  out : out = (w.1.take v.2.1.toNat).drop w.2.1.toNat
  arr : ∀ k, arr v k ↔ arr w k ∨ k = seq
theorem arrive_spec {w : DWay} (h : IsRight w) (seq : Int) :
    ((arriveF w seq).2.2 = 0 ∧ Arrived w seq (arriveF w seq).1 (arriveF w seq).2.1) ∨
    ((arriveF w seq).2.2 = 4 ∧ (arriveF w seq).2.1 = [] ∧ (seq < 0 ∨ (w.1.length : Int) ≤ seq)) ∨
    ((arriveF w seq).2.2 = 5 ∧ (arriveF w seq).2.1 = [] ∧ (0 ≤ seq ∧ seq < w.1.length) ∧ arr w seq) := by
  have hr := rightW_iff.2 h
  obtain ⟨S, n, E⟩ := w
  have h1 := h.few
  have h2 := h.low
  have h3 := h.high
  have h4 := h.ord
  have h5 := h.mem
  dsimp only at h1 h2 h3 h4 h5
  unfold arriveF
  rw [if_neg (by rw [hr]; simp)]
  dsimp only
  by_cases c1 : seq < 0 ∨ (S.length : Int) ≤ seq
  · rw [if_pos c1]; exact .inr (.inl ⟨rfl, rfl, c1⟩)
  · rw [if_neg c1]
    by_cases c2 : seq ∈ E ∨ seq < n
    · rw [if_pos c2]
      refine .inr (.inr ⟨rfl, rfl, by omega, ?_⟩)
      rcases c2 with c2 | c2
      · exact .inr c2
      · exact .inl ⟨by omega, c2⟩
    · rw [if_neg c2]
      rw [not_or] at c2
      left
      have hno : ¬ arr (S, n, E) seq := by
        rintro (q | q)
        · exact c2.2 q.2
        · exact c2.1 q
      by_cases c3 : n < seq
      · rw [if_pos c3]
        refine ⟨rfl, by omega, (by dsimp only; omega), hno, ⟨h1, h2, h3, insE_ord h4 c2.1, fun e he => ?_⟩, rfl, Int.le_refl _, ?_, fun k => ?_⟩
        · dsimp only at he ⊢
          rcases mem_insE.1 he with he | rfl
          · exact h5 e he
          · omega
        · symm
          apply List.drop_of_length_le
          rw [List.length_take]
          dsimp only; omega
        · unfold arr
          dsimp only
          rw [mem_insE, or_assoc]
      · rw [if_neg c3]
        have hs : seq = n := by omega
        subst hs
        have hord := ordE_of (n := seq) (m := S.length) h4 h5
        have hbd := runE_bd (n := seq + 1) (m := S.length) (E := E) (fun e he => (h5 e he).2) (by omega)
        have hnx := runE_next hord
        have htk := runE_take (seq + 1) E
        refine ⟨rfl, by omega, (by dsimp only; omega), hno, ⟨h1, ?_, hbd, h4.sublist (List.drop_sublist _ _), fun e he => ⟨hnx.2 e he, (h5 e (List.mem_of_mem_drop he)).2⟩⟩, rfl, ?_, rfl, fun k => ?_⟩
        · dsimp only; omega
        · dsimp only; omega
        · unfold arr
          dsimp only
          have : k ∈ E ↔ k ∈ E.take (runE (seq + 1) E) ∨ k ∈ E.drop (runE (seq + 1) E) := by rw [← List.mem_append, List.take_append_drop]
          rw [this, htk]
          constructor
          · rintro (q | q)
            · by_cases e1 : k < seq
              · exact .inl (.inl ⟨q.1, e1⟩)
              · by_cases e2 : k = seq
                · exact .inr e2
                · exact .inl (.inr (.inl ⟨by omega, q.2⟩))
            · exact .inl (.inr (.inr q))
          · rintro ((q | q | q) | q)
            · left; omega
            · left; omega
            · exact .inr q
            · left; omega
theorem take_more {S : List ByteArray} {a b : Nat} (h : a ≤ b) : S.take a ++ (S.take b).drop a = S.take b := by
  have : S.take a = (S.take b).take a := by rw [List.take_take, Nat.min_eq_left h]
  rw [this, List.take_append_drop]
end Go.Proofs.Ytiahbkjomegkiaa
