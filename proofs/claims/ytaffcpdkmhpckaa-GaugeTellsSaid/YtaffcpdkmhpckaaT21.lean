/- Typed abstract walk, part 21: loops; only the variables' slots are compared. -/
import Derived.Test.YtaffcpdkmhpckaaT20
namespace Go.Proofs.Ytaffcpdkmhpckaa
set_option linter.unusedVariables false
set_option linter.unusedSimpArgs false
open Go.RowKit
namespace T
def leH (s st : AS) (nv : Nat) (ds : List Nat) (live : List (Nat × AV)) (ls : List Nat) (hp : List (Nat × OB)) (ρ : List (Nat × Nat)) : Prop :=
  avles ρ (look s.hp) (sets (tops (st.tm.take nv) ds) live) (s.tm.take nv) ∧ hple ρ (look s.hp) (puts (keep st.hp ls) hp) ∧ uniq ρ = true ∧ sub ρ (puts (keep st.hp ls) hp) = true ∧ locOk ⟨sets (tops (st.tm.take nv) ds) live, puts (keep st.hp ls) hp, st.nx⟩ = true
def ρH (s st : AS) (nv : Nat) (ds : List Nat) (live : List (Nat × AV)) (ls : List Nat) (hp : List (Nat × OB)) : List (Nat × Nat) :=
  let A := sets (tops (st.tm.take nv) ds) live
  let h := puts (keep st.hp ls) hp
  let ρ := tidy h [] (rens A (s.tm.take nv))
  tidy h ρ (renB h s.hp ρ)
def leA (s st : AS) (nv : Nat) (ds : List Nat) (live : List (Nat × AV)) (ls : List Nat) (hp : List (Nat × OB)) : Prop := leH s st nv ds live ls hp (ρH s st nv ds live ls hp)
theorem avles_tops {ρ : List (Nat × Nat)} {hp : Hp} : ∀ (D : List AV), avles ρ hp (List.replicate D.length .top) D
  | [] => by unfold avles; trivial
  | y :: D => by
    rw [List.length_cons, List.replicate_succ]
    unfold avles
    exact ⟨by unfold avle; trivial, avles_tops D⟩
theorem avles_tail {ρ : List (Nat × Nat)} {hp : Hp} (D : List AV) : ∀ {A L : List AV}, avles ρ hp A L → avles ρ hp (A ++ List.replicate D.length .top) (L ++ D)
  | [], L, h => by
    cases L with
    | nil => exact avles_tops D
    | cons _ _ => unfold avles at h; exact h.elim
  | x :: A, L, h => by
    cases L with
    | nil => unfold avles at h; exact h.elim
    | cons y L =>
      unfold avles at h
      rw [List.cons_append, List.cons_append]
      unfold avles
      exact ⟨h.1, avles_tail D h.2⟩
section
variable {P : Program} {C : List Ent} {n : Nat} {Q : XQ} {st : AS} {a b : XC}
theorem le_of2 {s : AS} {nv : Nat} {ds ls : List Nat} {live : List (Nat × AV)} {hp : List (Nat × OB)} (hn : st.tm.length = n) (h : leA s st nv ds live ls hp) : AS.le P n s (headOf st nv ds live ls hp) := by
  intro B M w0 ψ a w sim
  refine le_of (ρ := ρH s st nv ds live ls hp) ?_ B M w0 ψ a w sim
  have hl : s.tm.length = n := sim.1
  obtain ⟨h1, h2, h3, h4, h5⟩ := h
  refine ⟨?_, h2, h3, h4, ?_⟩
  · have : s.tm = s.tm.take nv ++ s.tm.drop nv := (List.take_append_drop ..).symm
    show avles _ _ (_ ++ List.replicate (st.tm.length - nv) .top) s.tm
    rw [this]
    have e : st.tm.length - nv = (s.tm.drop nv).length := by rw [List.length_drop, hl, hn]
    rw [e, ← this]
    have := avles_tail (s.tm.drop nv) h1
    rwa [List.take_append_drop] at this
  · unfold locOk at h5 ⊢
    simp only [Bool.and_eq_true] at h5 ⊢
    refine ⟨?_, h5.2⟩
    show (_ ++ List.replicate (st.tm.length - nv) AV.top).all _ = true
    rw [List.all_append, Bool.and_eq_true]
    refine ⟨h5.1, ?_⟩
    rw [List.all_eq_true]
    intro x hx
    rw [(List.mem_replicate.1 hx).2]
    rfl
theorem XW_for2 (nv : Nat) (ds ls : List Nat) (X : Type) (live : X → List (Nat × AV)) (hp : X → List (Nat × OB)) (inv : X → Prop) (μ : X → Nat) (x0 : X) (h0 : leA st st nv ds (live x0) ls (hp x0)) (hi : inv x0)
    (hr : ∀ x, inv x → xwp P C n b (XQ.seq (fun s => ∃ x', μ x' < μ x ∧ inv x' ∧ leA s st nv ds (live x') ls (hp x')) Q) (headOf st nv ds (live x) ls (hp x))) : XW P C n (.loop b) Q st := by
  intro code hc hC B M w0 ψ a w sim
  have hn : st.tm.length = n := sim.1
  refine XW_loop X (fun x => headOf st nv ds (live x) ls (hp x)) inv μ x0 (le_of2 hn h0) hi (fun x hx => ?_) code hc hC B M w0 ψ a w sim
  refine xwp_mono (fun e s q => ?_) (hr x hx)
  cases e with
  | normal => obtain ⟨x', h1, h2, h3⟩ := q; exact ⟨x', h1, h2, le_of2 hn h3⟩
  | exit i => exact q
  | ret => exact q
end
end T
end Go.Proofs.Ytaffcpdkmhpckaa
