/- From the reading of an argument to what memory holds. -/
import Derived.Test.YtaffcpdkmhpckaaMem
import Derived.Lib.SmallJoins
namespace Go.Proofs.Ytaffcpdkmhpckaa
set_option linter.unusedVariables false
set_option linter.unusedSimpArgs false
open Go.ChangeShapes Go.WideShapes Go.ChangeAt Go.RowKit Go.Joins

theorem own : ownKnob Try.prog.godebug = none := by kernel_rfl
theorem laidOut : laidOutB Try.prog = true := by kernel_rfl
theorem arcStruct : ∃ f0 f1 f2 f3 : Field, Try.prog.underlying 24 = some (.struct #[f0, f1, f2, f3]) ∧ Go.Deep.oneCellFields Try.prog #[f0, f1, f2, f3] = true ∧ Try.prog.cellsOf 24 = 4 ∧
    f0.type = 3 ∧ f1.type = 3 ∧ f2.type = 22 ∧ f3.type = 22 := ⟨_, _, _, _, Try.underlying24, by kernel_rfl, by kernel_rfl, rfl, rfl, rfl, rfl⟩

variable {H : Type} {enc : TypeId × Value → H} {W : World}
/-- A slice of integers among the arguments. -/
theorem open_row {fuel : Nat} {v : Value} {x : DataW H × List MemPlace} (h : DataW.trod enc Try.prog W 0 (fun _ => true) true fuel 22 [v] = some x) :
    ∃ A n c xs, v = .slice A n c ∧ IsInts W A n xs := by
  rcases open_ints Try.underlying22 Try.underlying3 (by kernel_rfl) h with ⟨hcs, _⟩ | ⟨a, len, cap, zs, hcs, _, hl, hm, hz, _, hcell, _⟩
  · simp only [List.cons.injEq, and_true] at hcs
    subst hcs
    exact ⟨none, 0, 0, [], rfl, rfl, by omega, .inl rfl⟩
  · simp only [List.cons.injEq, and_true] at hcs
    subst hcs
    simp only [if_true] at hz
    refine ⟨some a, len, cap, zs.take len, rfl, by simp; omega, by unfold maxLen at hm; omega, ?_⟩
    by_cases h0 : len = 0
    · exact .inl h0
    · right
      obtain ⟨b, off, spot⟩ := a
      have hs : spot = none := by simpa [Addr.add] using World.cell?_spot (hcell 0 (by omega))
      subst hs
      have hadd : ∀ i, (⟨b, off, none⟩ : Addr).add i = ⟨b, off + i, none⟩ := fun i => by unfold Addr.add; split <;> simp_all
      refine ⟨b, off, rfl, World.block_lt_of_cell? W _ (hcell 0 (by omega)), fun i hi => ?_⟩
      rw [← hadd, hcell i (by omega)]
      simp [hi]
theorem open_arc {base : Nat} {v : Value} {d : DataW H} {p : List MemPlace} (hv : Value.okWide Try.prog W .any base 24 v)
    (h : DataW.Trod enc Try.prog W 0 (fun _ => true) true 24 v d p) : ∃ a, IsArc W v a := by
  obtain ⟨f0, f1, f2, f3, e0, e1, e2, t0, t1, t2, t3⟩ := arcStruct
  obtain ⟨v0, v1, v2, v3, y0, y1, y2, y3, n, rfl, _, _, h0, h1, h2, h3⟩ := open_agg4 e0 e1 e2 hv h
  rw [t0] at h0
  rw [t1] at h1
  rw [t2] at h2
  rw [t3] at h3
  obtain ⟨x, q0, _, _⟩ := DataW.trod_int Try.underlying3 h0
  obtain ⟨y, q1, _, _⟩ := DataW.trod_int Try.underlying3 h1
  simp only [List.cons.injEq, and_true] at q0 q1
  subst q0 q1
  obtain ⟨A, n, c, xs, rfl, hx⟩ := open_row h2
  obtain ⟨A', n', c', xs', rfl, hx'⟩ := open_row h3
  exact ⟨⟨x, y, xs, xs'⟩, A, n, c, A', n', c', rfl, hx, hx'⟩
theorem bounds_i64 {n : Int} (h : (Lit.int .i64 n).wf = true) : -9223372036854775808 ≤ n ∧ n ≤ 9223372036854775807 := by
  simp [Lit.wf, IntKind.min, IntKind.max, IntKind.signed, IntKind.bits] at h
  omega
end Go.Proofs.Ytaffcpdkmhpckaa
