/- Contracts of clock and of its reference, in the form of the typed walk. -/
import Derived.Test.YtbbjopgneophnaaT20
import Derived.Test.YtbbjopgneophnaaXC
import Derived.Test.YtbbjopgneophnaaChecked
import Derived.Test.YtbbjopgneophnaaClockPass
import Derived.Test.YtbbjopgneophnaaRef10Pass
namespace Go.Proofs.Ytbbjopgneophnaa
set_option linter.unusedVariables false
set_option linter.unusedSimpArgs false
open Go.RowKit
theorem getD_mem {α : Type} {d : α} {l : List α} {k : Nat} (h : k < l.length) : l.getD k d ∈ l := by
  rw [List.getD_eq_getElem?_getD, List.getElem?_eq_getElem h]; exact List.getElem_mem h
namespace T
abbrev DArc := Int × Int × List Int × List Int
@[reducible] def toArc (x : DArc) : Arc := ⟨x.1, x.2.1, x.2.2.1, x.2.2.2⟩
section
variable {P : Program} {w : World} {M : Nat → Prop}
theorem ints_is {d : List Int} {cs : List Value} (q : Rd P (.sl (.int .i64)) w M d cs) : ∃ A n c, cs = [.slice A n c] ∧ IsInts w A n d := by
  obtain ⟨A, n, c, e, h1, h2, h3, h4⟩ := q
  refine ⟨A, n, c, e, h1, by simp only [maxLen] at h3; omega, ?_⟩
  rcases h4 with h4 | ⟨b, off, cc, rfl, hb, _, hc, hr⟩
  · exact .inl h4
  · refine .inr ⟨b, off, rfl, hb, fun i hi => ?_⟩
    have hi' : i < d.length := by omega
    obtain ⟨c1, c0, c2, rfl, r1, r2, _⟩ := hr.at hi'
    have hl : c1.length = i := by rw [RowsBy.len (n := 1) (fun _ _ q => q.len) r1, List.length_take, Nat.min_eq_left (by omega)]; omega
    obtain rfl := r2.1
    have := hc.left.right 0 _ rfl
    rw [hl] at this
    rw [List.getD_eq_getElem?_getD, List.getElem?_eq_getElem hi']
    simpa using this
theorem arc_is {x : DArc} {v : Value} (q : RdV P (.st (.cons (.int .i64) (.cons (.int .i64) (.cons (.sl (.int .i64)) (.sl (.int .i64)))))) w M x v) : IsArc w v (toArc x) ∧ (IntKind.i64.min ≤ x.1 ∧ x.1 ≤ IntKind.i64.max) ∧ IntKind.i64.min ≤ x.2.1 ∧ x.2.1 ≤ IntKind.i64.max := by
  obtain ⟨hs, c1, c2, e, ⟨rfl, r1⟩, c3, c4, rfl, ⟨rfl, r2⟩, c5, c6, rfl, q3, q4⟩ := q
  obtain ⟨cs, rfl⟩ := hs.2 rfl
  obtain ⟨A, n, c, rfl, h3⟩ := ints_is q3
  obtain ⟨A', n', c', rfl, h4⟩ := ints_is q4
  refine ⟨⟨A, n, c, A', n', c', ?_, h3, h4⟩, r1, r2⟩
  congr 1
  apply Array.ext'
  simpa [Value.cells, toArc] using e
theorem small_i64 {x : Int} (h : -9223372036854775808 ≤ x ∧ x ≤ 9223372036854775807) : IntKind.i64.min ≤ x ∧ x ≤ IntKind.i64.max := h
end

def entClockRight : Ent := ⟨39, .cons (.st (.cons (.int .i64) (.cons (.int .i64) (.cons (.sl (.int .i64)) (.sl (.int .i64)))))) .nil, .bool, false, none, fun _ => True, fun x => (toArc x.1).rightB⟩
theorem conClockRight : Con Try.prog entClockRight := by
  refine ⟨by kernel_rfl, ?_⟩
  rintro ⟨x, _⟩ _ w M vs hM ⟨v, _, rfl, q, rfl⟩
  refine (Clock.right_any (arc_is q).1).mono ?_
  rintro e w' ⟨rfl, hb⟩
  exact ⟨_, rfl, hb, bool_avr (hp := fun _ => none) (ψ := fun _ => undef)⟩
def entRefRight10 : Ent := ⟨41, .cons (.st (.cons (.int .i64) (.cons (.int .i64) (.cons (.sl (.int .i64)) (.sl (.int .i64)))))) .nil, .bool, false, none, fun _ => True, fun x => (toArc x.1).rightB⟩
theorem conRefRight10 : Con Try.prog entRefRight10 := by
  refine ⟨by kernel_rfl, ?_⟩
  rintro ⟨x, _⟩ _ w M vs hM ⟨v, _, rfl, q, rfl⟩
  refine (Ref10.right_any (arc_is q).1).mono ?_
  rintro e w' ⟨rfl, hb⟩
  exact ⟨_, rfl, hb, bool_avr (hp := fun _ => none) (ψ := fun _ => undef)⟩
theorem passF_range (a : Arc) (hi : Bool) (t : Int) : IntKind.i64.min ≤ a.passF hi t ∧ a.passF hi t ≤ IntKind.i64.max := by
  unfold Arc.passF
  split
  · rename_i h
    obtain ⟨⟨h1, h2⟩, h3⟩ := Arc.validB_true h
    have := a.pass_bd h3 hi h2
    have := a.tk_bd h3 hi t
    exact small_i64 (by omega)
  · exact small_i64 (by omega)
theorem lastF_range (a : Arc) (hi : Bool) (t : Int) : IntKind.i64.min ≤ a.lastF hi t ∧ a.lastF hi t ≤ IntKind.i64.max := by
  unfold Arc.lastF
  split
  · obtain ⟨h1, h2, _⟩ := a.last_is hi t
    exact small_i64 (by omega)
  · exact small_i64 (by omega)
def entPass : Ent := ⟨34, .cons (.st (.cons (.int .i64) (.cons (.int .i64) (.cons (.sl (.int .i64)) (.sl (.int .i64)))))) (.cons (.int .i64) (.cons .bool .nil)), (.int .i64), false, none, fun _ => True, fun x => (toArc x.1).passF x.2.2.1 x.2.1⟩
theorem conPass : Con Try.prog entPass := by
  refine ⟨by kernel_rfl, ?_⟩
  rintro ⟨x, t, hi, _⟩ _ w M vs hM ⟨v, _, rfl, q, v1, _, rfl, q1, v2, _, rfl, q2, rfl⟩
  obtain ⟨rfl, _⟩ := avr_int (hp := fun _ => none) (ψ := fun _ => undef) q1
  obtain rfl := avr_bool (hp := fun _ => none) (ψ := fun _ => undef) q2
  refine (Clock.pass_any (arc_is q).1 t hi).mono ?_
  rintro e w' ⟨rfl, hb⟩
  exact ⟨_, rfl, hb, int_avr (hp := fun _ => none) (ψ := fun _ => undef) (passF_range _ _ _)⟩
def entRPass : Ent := ⟨44, .cons (.st (.cons (.int .i64) (.cons (.int .i64) (.cons (.sl (.int .i64)) (.sl (.int .i64)))))) (.cons (.int .i64) (.cons .bool .nil)), (.int .i64), false, none, fun _ => True, fun x => (toArc x.1).passF x.2.2.1 x.2.1⟩
theorem conRPass : Con Try.prog entRPass := by
  refine ⟨by kernel_rfl, ?_⟩
  rintro ⟨x, t, hi, _⟩ _ w M vs hM ⟨v, _, rfl, q, v1, _, rfl, q1, v2, _, rfl, q2, rfl⟩
  obtain ⟨rfl, _⟩ := avr_int (hp := fun _ => none) (ψ := fun _ => undef) q1
  obtain rfl := avr_bool (hp := fun _ => none) (ψ := fun _ => undef) q2
  refine (Ref10.pass_any (arc_is q).1 t hi).mono ?_
  rintro e w' ⟨rfl, hb⟩
  exact ⟨_, rfl, hb, int_avr (hp := fun _ => none) (ψ := fun _ => undef) (passF_range _ _ _)⟩
end T
end Go.Proofs.Ytbbjopgneophnaa
