/- Contracts of clock and gauge, in the form of the typed walk. -/
import Derived.Test.YtaffcpdkmhpckaaT19
import Derived.Test.YtaffcpdkmhpckaaXC
import Derived.Test.YtaffcpdkmhpckaaChecked
import Derived.Test.YtaffcpdkmhpckaaTighten
import Derived.Test.YtaffcpdkmhpckaaClockPass
import Derived.Test.YtaffcpdkmhpckaaRef10
import Derived.Test.YtaffcpdkmhpckaaPlainGauge2
namespace Go.Proofs.Ytaffcpdkmhpckaa
set_option linter.unusedVariables false
set_option linter.unusedSimpArgs false
open Go.RowKit
namespace T
abbrev DArc := Int × Int × List Int × List Int
@[reducible] def toArc (x : DArc) : Arc := ⟨x.1, x.2.1, x.2.2.1, x.2.2.2⟩
@[reducible] def toObs (o : Int × Int) : Obs := ⟨o.1, o.2⟩
section
variable {P : Program} {w : World} {M : Nat → Prop}
theorem ints_is {d : List Int} {cs : List Value} (q : Rd P (.sl (.int .i64)) w M d cs) : ∃ A n c, cs = [.slice A n c] ∧ IsInts w A n d := by
  obtain ⟨A, n, c, e, h1, h2, h3, h4⟩ := q
  refine ⟨A, n, c, e, h1, by simp only [maxLen] at h3; omega, ?_⟩
  rcases h4 with h4 | ⟨b, off, cc, rfl, hb, _, hc, hr⟩
  · exact .inl h4
  · refine .inr ⟨b, off, rfl, hb, fun i hi => ?_⟩
    have hi' : i < d.length := by omega
    obtain ⟨c1, c0, c2, rfl, r1, r2, _⟩ := hr.at hi'
    have hl : c1.length = i := by rw [RowsBy.len (n := 1) (fun _ _ q => q.len) r1, List.length_take, Nat.min_eq_left (by omega)]; omega
    obtain rfl := r2.1
    have := hc.left.right 0 _ rfl
    rw [hl] at this
    rw [List.getD_eq_getElem?_getD, List.getElem?_eq_getElem hi']
    simpa using this
theorem arc_is {x : DArc} {v : Value} (q : RdV P (.st (.cons (.int .i64) (.cons (.int .i64) (.cons (.sl (.int .i64)) (.sl (.int .i64)))))) w M x v) : IsArc w v (toArc x) ∧ (IntKind.i64.min ≤ x.1 ∧ x.1 ≤ IntKind.i64.max) ∧ IntKind.i64.min ≤ x.2.1 ∧ x.2.1 ≤ IntKind.i64.max := by
  obtain ⟨hs, c1, c2, e, ⟨rfl, r1⟩, c3, c4, rfl, ⟨rfl, r2⟩, c5, c6, rfl, q3, q4⟩ := q
  obtain ⟨cs, rfl⟩ := hs.2 rfl
  obtain ⟨A, n, c, rfl, h3⟩ := ints_is q3
  obtain ⟨A', n', c', rfl, h4⟩ := ints_is q4
  refine ⟨⟨A, n, c, A', n', c', ?_, h3, h4⟩, r1, r2⟩
  congr 1
  apply Array.ext'
  simpa [Value.cells, toArc] using e
theorem obs_is {d : List (Int × Int)} {v : Value} (q : RdV P (.sl (.st (.cons (.int .i64) (.int .i64)))) w M d v) : ∃ A n c, v = .slice A n c ∧ IsObs w A n (d.map toObs) := by
  obtain ⟨A, n, c, e, h1, h2, h3, h4⟩ := (RdV.one (t := .sl (.st (.cons (.int .i64) (.int .i64)))) q rfl rfl).1
  simp only [List.cons.injEq, and_true] at e
  refine ⟨A, n, c, e, by simpa using h1, by simp only [maxLen] at h3; omega, ?_⟩
  rcases h4 with h4 | ⟨b, off, cc, rfl, hb, _, hc, hr⟩
  · exact .inl h4
  · refine .inr ⟨b, off, rfl, hb, fun i hi => ?_⟩
    have hi' : i < d.length := by omega
    obtain ⟨c1, c0, c2, rfl, r1, r2, _⟩ := hr.at hi'
    have hl : c1.length = i * 2 := by rw [RowsBy.len (n := 2) (fun _ _ q => q.len) r1, List.length_take, Nat.min_eq_left (by omega)]
    obtain ⟨k1, k2, rfl, ⟨rfl, _⟩, rfl, _⟩ := r2
    have g := hc.left.right
    rw [hl] at g
    have g0 := g 0 _ rfl
    have g1 := g 1 _ rfl
    have e0 : (d.map toObs).getD i default = toObs d[i] := by simp [List.getD_eq_getElem?_getD, hi']
    rw [e0]
    exact ⟨by simpa [toObs] using g0, by simpa [toObs] using g1⟩
theorem rd_of_owns {B : Nat} {e : TypeId} {v : Value} {n : Nat} {xs : List Int} (h : w.ownsRow B e 1 v n (xs.map (Value.int .i64))) (hr : ∀ x ∈ xs, IntKind.i64.min ≤ x ∧ x ≤ IntKind.i64.max) (hM : ∀ b, M b → b < B) : Rd P (.sl (.int .i64)) w M xs [v] := by
  have hl : xs.length = n := by simpa using h.1
  have rows : ∀ ys : List Int, (∀ x ∈ ys, IntKind.i64.min ≤ x ∧ x ≤ IntKind.i64.max) → RowsBy (fun x c => Rd P (.int .i64) w M x c) ys (ys.map (Value.int .i64)) := by
    intro ys
    induction ys with
    | nil => intro _; rfl
    | cons y r ih => intro hy; exact ⟨[.int .i64 y], r.map (Value.int .i64), rfl, ⟨rfl, hy y (by simp)⟩, ih fun x hx => hy x (by simp [hx])⟩
  rcases id h.2 with ⟨rfl, h0⟩ | ⟨g, cap, cur, rfl, hB, hg, hn, hc, hcs, ht⟩
  · exact ⟨none, 0, 0, rfl, by rw [hl, h0], Nat.le_refl _, Nat.zero_le _, .inl rfl⟩
  · refine ⟨_, _, _, rfl, hl, hn, hc, .inr ⟨g, 0, _, rfl, lt_of_block hg, fun q => ?_, own_cells h, rows xs hr⟩⟩
    have := hM g q; omega
theorem small_i64 {x : Int} (h : -9223372036854775808 ≤ x ∧ x ≤ 9223372036854775807) : IntKind.i64.min ≤ x ∧ x ≤ IntKind.i64.max := h
end

def entClockRight : Ent := ⟨16, .cons (.st (.cons (.int .i64) (.cons (.int .i64) (.cons (.sl (.int .i64)) (.sl (.int .i64)))))) .nil, .bool, false, none, fun _ => True, fun x => (toArc x.1).rightB⟩
theorem conClockRight : Con Try.prog entClockRight := by
  refine ⟨by kernel_rfl, ?_⟩
  rintro ⟨x, _⟩ _ w M vs hM ⟨v, _, rfl, q, rfl⟩
  refine (Clock.right_any (arc_is q).1).mono ?_
  rintro e w' ⟨rfl, hb⟩
  exact ⟨_, rfl, hb, bool_avr (hp := fun _ => none) (ψ := fun _ => undef)⟩
def entRefRight10 : Ent := ⟨26, .cons (.st (.cons (.int .i64) (.cons (.int .i64) (.cons (.sl (.int .i64)) (.sl (.int .i64)))))) .nil, .bool, false, none, fun _ => True, fun x => (toArc x.1).rightB⟩
theorem conRefRight10 : Con Try.prog entRefRight10 := by
  refine ⟨by kernel_rfl, ?_⟩
  rintro ⟨x, _⟩ _ w M vs hM ⟨v, _, rfl, q, rfl⟩
  refine (Ref10.right_any (arc_is q).1).mono ?_
  rintro e w' ⟨rfl, hb⟩
  exact ⟨_, rfl, hb, bool_avr (hp := fun _ => none) (ψ := fun _ => undef)⟩
def entGaugeRight : Ent := ⟨14, .cons (.sl (.st (.cons (.int .i64) (.int .i64)))) .nil, .bool, false, none, fun _ => True, fun x => obsRightB (x.1.map toObs)⟩
theorem conGaugeRight : Con Try.prog entGaugeRight := by
  refine ⟨by kernel_rfl, ?_⟩
  rintro ⟨x, _⟩ _ w M vs hM ⟨v, _, rfl, q, rfl⟩
  obtain ⟨A, n, c, rfl, h⟩ := obs_is q
  refine (Gauge.right_any h).mono ?_
  rintro e w' ⟨rfl, hb⟩
  exact ⟨_, rfl, hb, bool_avr (hp := fun _ => none) (ψ := fun _ => undef)⟩
/-- What gauge.Tighten returns. -/
def tightF (a : Arc) (l : List Obs) : DArc × List Int × Int × Unit :=
  if a.rightB && obsRightB l then ((a.f, a.t, (a.tight l).L, (a.tight l).H), straysOf a l, 0, ()) else ((0, 0, [], []), [], 1, ())
def entTighten : Ent := ⟨10, .cons (.st (.cons (.int .i64) (.cons (.int .i64) (.cons (.sl (.int .i64)) (.sl (.int .i64)))))) (.cons (.sl (.st (.cons (.int .i64) (.int .i64)))) .nil), .cons (.st (.cons (.int .i64) (.cons (.int .i64) (.cons (.sl (.int .i64)) (.sl (.int .i64)))))) (.cons (.sl (.int .i64)) (.cons (.int .i64) .nil)), true, none, fun _ => True, fun x => tightF (toArc x.1) (x.2.1.map toObs)⟩
theorem conTighten : Con Try.prog entTighten := by
  refine ⟨by kernel_rfl, ?_⟩
  rintro ⟨x, y, _⟩ _ w M vs hM ⟨v, _, rfl, q, v2, _, rfl, q2, rfl⟩
  obtain ⟨A, n, c, rfl, h⟩ := obs_is q2
  obtain ⟨ha, r1, r2⟩ := arc_is q
  refine (Gauge.tighten_any ha h).mono ?_
  rintro e w' ⟨⟨h1, h2⟩, hb⟩
  show ∃ v, e = .returned v ∧ Below w.heap.size w w' ∧ RdRes Try.prog true (.cons (.st (.cons (.int .i64) (.cons (.int .i64) (.cons (.sl (.int .i64)) (.sl (.int .i64)))))) (.cons (.sl (.int .i64)) (.cons (.int .i64) .nil))) w' M (tightF (toArc x) (y.map toObs)) v
  unfold tightF
  cases hg : (toArc x).rightB && obsRightB (y.map toObs) with
  | true =>
    simp only [Bool.and_eq_true] at hg
    obtain ⟨g1, g2⟩ := hg
    obtain ⟨g, d, g', d', A, n, c, rfl, k1, k2, k3⟩ := h1 g1 g2
    have hr : (toArc x).right := of_decide_eq_true g1
    have hok : (y.map toObs).all Obs.okB = true := by unfold obsRightB at g2; simp only [Bool.and_eq_true] at g2; exact g2.2
    have hlen : (y.map toObs).length ≤ 10000 := by unfold obsRightB at g2; simp only [Bool.and_eq_true, decide_eq_true_eq] at g2; exact g2.1
    have hm := right_mem (tight_right hr hok)
    refine ⟨_, rfl, hb, ?_⟩
    unfold RdRes
    rw [if_pos rfl, if_pos rfl]
    refine ⟨_, rfl, _, _, rfl, ⟨shape_st, _, _, rfl, ⟨rfl, r1⟩, _, _, rfl, ⟨rfl, r2⟩, _, _, rfl, rd_of_owns k1 (fun z hz => small_i64 (by have := hm.1 z hz; omega)) hM, rd_of_owns k2 (fun z hz => small_i64 (by have := hm.2 z hz; omega)) hM⟩, _, _, rfl, ⟨shape_sl, ?_⟩, _, _, rfl, int_avr (hp := fun _ => none) (ψ := fun _ => undef) (M := M) (small_i64 (x := 0) (by omega)), rfl⟩
    exact rd_of_owns k3 (fun z hz => small_i64 (by have := straysFrom_mem _ _ _ z hz; omega)) hM
  | false =>
    obtain rfl := h2 hg
    refine ⟨_, rfl, hb, ?_⟩
    unfold RdRes
    rw [if_pos rfl, if_neg (by simp)]
    have nil : Rd Try.prog (.sl (.int .i64)) w' M [] [.slice none 0 0] := ⟨none, 0, 0, rfl, rfl, Nat.le_refl _, Nat.zero_le _, .inl rfl⟩
    refine ⟨_, rfl, _, _, rfl, ⟨shape_st, _, _, rfl, ⟨rfl, small_i64 (x := 0) (by omega)⟩, _, _, rfl, ⟨rfl, small_i64 (x := 0) (by omega)⟩, _, _, rfl, nil, nil⟩, _, _, rfl, ⟨shape_sl, nil⟩, _, _, rfl, int_avr (hp := fun _ => none) (ψ := fun _ => undef) (M := M) (small_i64 (x := 1) (by omega)), rfl⟩
def entPass : Ent := ⟨18, .cons (.st (.cons (.int .i64) (.cons (.int .i64) (.cons (.sl (.int .i64)) (.sl (.int .i64)))))) (.cons (.int .i64) (.cons .bool .nil)), (.int .i64), false, none, fun _ => True, fun x => (toArc x.1).passF x.2.2.1 x.2.1⟩
def entLast : Ent := ⟨19, .cons (.st (.cons (.int .i64) (.cons (.int .i64) (.cons (.sl (.int .i64)) (.sl (.int .i64)))))) (.cons (.int .i64) (.cons .bool .nil)), (.int .i64), false, none, fun _ => True, fun x => (toArc x.1).lastF x.2.2.1 x.2.1⟩
end T
end Go.Proofs.Ytaffcpdkmhpckaa
