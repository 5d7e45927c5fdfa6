/- What a law's frame needs of the program: the knob, and how data is laid out. -/
import Derived.Test.YtbbpiihbhdagnaaChecked
import Derived.Test.YtbbpiihbhdagnaaRows
import Derived.Test.YtbbpiihbhdagnaaT20
import Derived.OpenShut
import Derived.Lib.SmallJoins
import Derived.Below
import Derived.SizedLaws
namespace Go.Proofs.Ytbbpiihbhdagnaa
set_option linter.unusedVariables false
set_option linter.unusedSimpArgs false
open Go.ChangeShapes Go.WideShapes Go.ChangeAt Go.RowKit Go.Joins
theorem own : ownKnob Try.prog.godebug = none := by kernel_rfl
theorem laidOut : laidOutB Try.prog = true := by kernel_rfl
/-- An argument that is a slice weighs its length times its element's bytes. -/
theorem slice_weight {P : Program} {H : Type} {enc : TypeId × Value → H} {W : World} {M : Nat → Prop} {τ e : TypeId} {t : T.Ty} {x : List t.den} {v : Value} {d : DataW H} {p : List MemPlace} {B : Nat} (hu : P.underlying τ = some (.slice e))
    (hx : T.RdV P (.sl t) W M x v) (h : DataW.Trod enc P W 0 (fun _ => true) true τ v d p) (hB : ∀ k ∈ d.weights P τ, k ≤ B) : x.length * P.bytesOf e ≤ B := by
  obtain ⟨fuel, h⟩ := h
  obtain ⟨A, n, c, hc, hl, hn, _⟩ := hx.2
  rw [hc] at h
  cases fuel with
  | zero => simp [DataW.trod] at h
  | succ fuel =>
    unfold DataW.trod at h
    rw [hu] at h
    cases A with
    | none =>
      cases n with
      | zero => rw [hl]; simp
      | succ n => simp at h
    | some a =>
      simp only [Nat.zero_le, true_and] at h
      split at h
      · simp only [Option.bind_eq_some_iff, Option.map_eq_some_iff] at h
        obtain ⟨elems, he, rest, hr, hd⟩ := h
        simp only [Prod.mk.injEq] at hd
        obtain ⟨rfl, _⟩ := hd
        have h1 := (T.mapM_mem he).1
        unfold DataW.weights at hB
        rw [hu] at hB
        have := hB _ (List.mem_cons_self ..)
        simp only [List.length_map, List.length_range] at this h1
        rw [hl, ← h1]
        refine Nat.le_trans ?_ this
        exact Nat.mul_le_mul_right _ (Nat.le_add_right _ _)
      · cases h
end Go.Proofs.Ytbbpiihbhdagnaa
