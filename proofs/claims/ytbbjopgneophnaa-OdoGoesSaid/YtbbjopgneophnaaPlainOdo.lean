/- The plain law of drives. -/
import Derived.Test.YtbbjopgneophnaaPlainRoad3
import Derived.Test.YtbbjopgneophnaaD9
namespace Go.Proofs.Ytbbjopgneophnaa
set_option linter.unusedVariables false
set_option linter.unusedSimpArgs false
open T
/-- A drive: time, node, odometer. -/
abbrev DDrv := Int × Int × Int
def fineB (n : Int) (d : DDrv) : Bool := decide (0 ≤ d.1) && (decide (d.1 ≤ 1048576) && (decide (0 ≤ d.2.1) && (decide (d.2.1 < n) && (decide (0 ≤ d.2.2) && decide (d.2.2 ≤ 1000000000000000)))))
def stepB (a d : DDrv) : Bool := decide (a.1 ≤ d.1) && (decide (a.2.2 ≤ d.2.2) && (decide (d.2.1 = a.2.1) || decide (a.2.2 < d.2.2)))
theorem fineB_iff {n : Int} {d : DDrv} : fineB n d = true ↔ 0 ≤ d.1 ∧ d.1 ≤ 1048576 ∧ 0 ≤ d.2.1 ∧ d.2.1 < n ∧ 0 ≤ d.2.2 ∧ d.2.2 ≤ 1000000000000000 := by
  unfold fineB; simp only [Bool.and_eq_true, decide_eq_true_iff]
theorem stepB_iff {a d : DDrv} : stepB a d = true ↔ a.1 ≤ d.1 ∧ a.2.2 ≤ d.2.2 ∧ (d.2.1 = a.2.1 ∨ a.2.2 < d.2.2) := by
  unfold stepB; simp only [Bool.and_eq_true, Bool.or_eq_true, decide_eq_true_iff]
/-- Are the first k drives right? -/
def okDr (n : Int) (l : List DDrv) : Nat → Bool
  | 0 => true
  | k + 1 => okDr n l k && (fineB n (l.getD k (0, 0, 0)) && (decide (k = 0) || stepB (l.getD (k - 1) (0, 0, 0)) (l.getD k (0, 0, 0))))
def rightDF (n : Int) (l : List DDrv) : Bool := decide (l.length ≤ 20000) && okDr n l l.length
theorem okDr_iff {n : Int} {l : List DDrv} : ∀ {k : Nat}, okDr n l k = true ↔ ∀ i < k, fineB n (l.getD i (0, 0, 0)) = true ∧ (i = 0 ∨ stepB (l.getD (i - 1) (0, 0, 0)) (l.getD i (0, 0, 0)) = true)
  | 0 => ⟨fun _ i hi => absurd hi (Nat.not_lt_zero i), fun _ => rfl⟩
  | k + 1 => by
    unfold okDr
    rw [Bool.and_eq_true, Bool.and_eq_true, Bool.or_eq_true, decide_eq_true_iff, okDr_iff (k := k)]
    constructor
    · rintro ⟨h1, h2, h3⟩ i hi
      by_cases c : i = k
      · subst c; exact ⟨h2, h3⟩
      · exact h1 i (by omega)
    · intro h
      exact ⟨fun i hi => h i (by omega), h k (by omega)⟩
theorem okDr_no {n : Int} {l : List DDrv} {k m : Nat} (hk : k < m) (h : ¬ (fineB n (l.getD k (0, 0, 0)) = true ∧ (k = 0 ∨ stepB (l.getD (k - 1) (0, 0, 0)) (l.getD k (0, 0, 0)) = true))) : okDr n l m = false := by
  rw [Bool.eq_false_iff]
  intro q
  exact h (okDr_iff.1 q k hk)
theorem rightDF_no {n : Int} {l : List DDrv} {k : Nat} (hk : k < l.length) (h : ¬ (fineB n (l.getD k (0, 0, 0)) = true ∧ (k = 0 ∨ stepB (l.getD (k - 1) (0, 0, 0)) (l.getD k (0, 0, 0)) = true))) : false = rightDF n l := by
  unfold rightDF; rw [okDr_no hk h, Bool.and_false]
theorem okDr_step {n : Int} {l : List DDrv} {k : Nat} (h : okDr n l k = true) (h1 : fineB n (l.getD k (0, 0, 0)) = true) (h2 : k = 0 ∨ stepB (l.getD (k - 1) (0, 0, 0)) (l.getD k (0, 0, 0)) = true) : okDr n l (k + 1) = true := by
  unfold okDr; rw [h, h1, Bool.true_and, Bool.true_and, Bool.or_eq_true, decide_eq_true_iff]; exact h2
/-- The earliest time at which a car can be somewhere. -/
def earliestF (n : Int) (A : List DArc) (d : DDrv) (to : Int) : Int × Int × Unit :=
  if ¬ (earlyF n A d.2.1 d.1 false).2.1 = 0 ∨ to < 0 ∨ ((earlyF n A d.2.1 d.1 false).1.length : Int) ≤ to then (0, 1, ()) else
  if ((earlyF n A d.2.1 d.1 false).1.getD to.toNat (0, 0)).1 < 0 then (0, 4, ()) else (((earlyF n A d.2.1 d.1 false).1.getD to.toNat (0, 0)).1, 0, ())
def badAt (n : Int) (A : List DArc) (l : List DDrv) (i : Nat) : Prop := ¬ (earliestF n A (l.getD (i - 1) (0, 0, 0)) (l.getD i (0, 0, 0)).2.1).2.1 = 0 ∨ (l.getD i (0, 0, 0)).1 < (earliestF n A (l.getD (i - 1) (0, 0, 0)) (l.getD i (0, 0, 0)).2.1).1
instance (n : Int) (A : List DArc) (l : List DDrv) (i : Nat) : Decidable (badAt n A l i) := by unfold badAt; infer_instance
/-- The first impossible drive from the i-th on, among k. -/
def possGo (n : Int) (A : List DArc) (l : List DDrv) : Nat → Nat → Int × Int × Unit
  | 0, _ => (0, 0, ())
  | k + 1, i => if badAt n A l i then ((i : Int), 19, ()) else possGo n A l k (i + 1)
def possibleF (n : Int) (A : List DArc) (l : List DDrv) : Int × Int × Unit :=
  if rightR n A = true ∧ rightDF n l = true then possGo n A l (l.length - 1) 1 else (0, 1, ())
/-- A request: member, from, to, early, late, due, ride, seats, chairs, bags. -/
abbrev DReq := Int × Int × Int × Int × Int × Int × Int × Int × Int × Int
abbrev DProm := DReq × Int × Int × Int × Int × Int
def pairB (q : DReq) (a b : DDrv) : Prop := a.2.1 = q.2.1 ∧ q.2.2.2.1 ≤ a.1 ∧ a.1 ≤ q.2.2.2.2.1 ∧ b.2.1 = q.2.2.1 ∧ b.1 ≤ q.2.2.2.2.2.1 ∧ a.1 - b.1 ≤ q.2.2.2.2.2.2.1 ∧ b.1 - a.1 ≤ q.2.2.2.2.2.2.1
/-- Is a promise kept? -/
def keptP (p : DProm) (l : List DDrv) : Prop := ∃ i k, i ≤ k ∧ k < l.length ∧ pairB p.1 (l.getD i (0, 0, 0)) (l.getD k (0, 0, 0))
noncomputable instance (p : DProm) (l : List DDrv) : Decidable (keptP p l) := Classical.propDecidable _
noncomputable def keptF (p : DProm) (l : List DDrv) : Bool := decide (keptP p l)
/-- Times of at most 2^40, at most 10 drives. -/
def fewD (l : List DDrv) : Bool := (l.take 11).all (fun d => decide (d.1 ≤ 1099511627776) && decide (-1099511627776 ≤ d.1)) && decide (l.length ≤ 10)
theorem fewD_iff {l : List DDrv} : fewD l = true ↔ l.length ≤ 10 ∧ ∀ d ∈ l, -1099511627776 ≤ d.1 ∧ d.1 ≤ 1099511627776 := by
  unfold fewD
  rw [Bool.and_eq_true, decide_eq_true_iff, List.all_eq_true]
  constructor
  · rintro ⟨h1, h2⟩
    refine ⟨h2, fun d hd => ?_⟩
    have := h1 d (by rw [List.take_of_length_le (by omega)]; exact hd)
    simp only [Bool.and_eq_true, decide_eq_true_iff] at this
    exact ⟨this.2, this.1⟩
  · rintro ⟨h1, h2⟩
    refine ⟨fun d hd => ?_, h1⟩
    have := h2 d (List.mem_of_mem_take hd)
    simp only [Bool.and_eq_true, decide_eq_true_iff]
    exact ⟨this.2, this.1⟩
end Go.Proofs.Ytbbjopgneophnaa
