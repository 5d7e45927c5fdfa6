/- The plain law of labels: going back, soundness, tightness. -/
import Derived.Test.YtcjgofcfinbpeaaL8
import Derived.Test.YtcjgofcfinbpeaaL3
namespace Go.Proofs.Ytcjgofcfinbpeaa
set_option linter.unusedVariables false
set_option linter.unusedSimpArgs false
open Go.RowKit Go.IntWalk
/-- Among n + 1 numbers below n two are equal. -/
theorem pig : ∀ (n : Nat) (f : Nat → Nat), (∀ i, i ≤ n → f i < n) → ∃ i j, i < j ∧ j ≤ n ∧ f i = f j
  | 0, f, h => absurd (h 0 (Nat.le_refl _)) (Nat.not_lt_zero _)
  | n + 1, f, h => by
    by_cases c : ∃ i, i ≤ n ∧ f i = f (n + 1)
    · obtain ⟨i, hi, e⟩ := c
      exact ⟨i, n + 1, by omega, Nat.le_refl _, e⟩
    · have hne : ∀ i, i ≤ n → f i ≠ f (n + 1) := fun i hi e => c ⟨i, hi, e⟩
      obtain ⟨i, j, hij, hj, e⟩ := pig n (fun i => if f (n + 1) < f i then f i - 1 else f i) (fun i hi => by
        have h1 := h i (by omega)
        have h2 := h (n + 1) (Nat.le_refl _)
        have h3 := hne i hi
        split <;> omega)
      refine ⟨i, j, hij, by omega, ?_⟩
      have h1 := hne i (by omega)
      have h2 := hne j hj
      split at e <;> split at e <;> omega
section
variable (A : List (Int × Int × List Int × List Int)) (L : List DLab) (src : Int)
/-- Where one comes from. -/
def nextN (v : Int) : Int := (A.getD (L.getD v.toNat (0, 0)).2.toNat (0, 0, [], [])).1
def byOk (v : Int) : Bool := decide (0 ≤ (L.getD v.toNat (0, 0)).2) && decide ((L.getD v.toNat (0, 0)).2 < A.length)
/-- Does one come back to the source, at less than k steps? -/
def backN : Nat → Int → Bool
  | 0, _ => false
  | k + 1, v => if v = src then true else byOk A L v && backN k (nextN A L v)
def itN : Nat → Int → Int
  | 0, v => v
  | k + 1, v => itN k (nextN A L v)
def hitN (t : Nat) (v : Int) : Prop := itN A L t v = src ∧ ∀ s, s < t → itN A L s v ≠ src ∧ byOk A L (itN A L s v) = true
variable {A L src}
theorem backN_iff : ∀ {k : Nat} {v : Int}, backN A L src k v = true ↔ ∃ t, t < k ∧ hitN A L src t v
  | 0, v => by simp [backN]
  | k + 1, v => by
    unfold backN
    by_cases c : v = src
    · rw [if_pos c]
      exact ⟨fun _ => ⟨0, by omega, c, fun s hs => by omega⟩, fun _ => rfl⟩
    · rw [if_neg c, Bool.and_eq_true, backN_iff]
      constructor
      · rintro ⟨h1, t, ht, h2, h3⟩
        refine ⟨t + 1, by omega, h2, fun s hs => ?_⟩
        cases s with
        | zero => exact ⟨c, h1⟩
        | succ s => exact h3 s (by omega)
      · rintro ⟨t, ht, h2, h3⟩
        cases t with
        | zero => exact absurd h2 c
        | succ t => exact ⟨(h3 0 (by omega)).2, t, by omega, h2, fun s hs => h3 (s + 1) (by omega)⟩
theorem itN_add : ∀ {i k : Nat} {v : Int}, itN A L (i + k) v = itN A L k (itN A L i v)
  | 0, k, v => by rw [Nat.zero_add]; rfl
  | i + 1, k, v => by rw [Nat.add_right_comm]; exact itN_add (i := i)
theorem itN_in {n : Nat} (hA : ∀ a ∈ A, 0 ≤ a.1 ∧ a.1 < n) : ∀ {t : Nat} {v : Int}, (0 ≤ v ∧ v < n) → (∀ s, s < t → byOk A L (itN A L s v) = true) → 0 ≤ itN A L t v ∧ itN A L t v < n
  | 0, v, hv, _ => hv
  | t + 1, v, hv, h => by
    have h0 : byOk A L v = true := h 0 (by omega)
    unfold byOk at h0
    rw [Bool.and_eq_true, decide_eq_true_iff, decide_eq_true_iff] at h0
    exact itN_in hA (t := t) (hA _ (getD_mem (by omega))) fun s hs => h (s + 1) (by omega)
/-- Who comes back at all does so in less than n steps. -/
theorem backN_short {n k : Nat} {v : Int} (hA : ∀ a ∈ A, 0 ≤ a.1 ∧ a.1 < n) (hv : 0 ≤ v ∧ v < n) (h : backN A L src k v = true) : backN A L src n v = true := by
  obtain ⟨t, _, h1, h2⟩ := backN_iff.1 h
  refine backN_iff.2 ⟨t, ?_, h1, h2⟩
  rcases Nat.lt_or_ge t n with c | c
  · exact c
  · exfalso
    have hin : ∀ i, i ≤ n → 0 ≤ itN A L i v ∧ itN A L i v < n := fun i hi => itN_in hA hv fun s hs => (h2 s (by omega)).2
    obtain ⟨i, j, hij, hj, e⟩ := pig n (fun i => (itN A L i v).toNat) (fun i hi => by have := hin i hi; omega)
    have e' : itN A L i v = itN A L j v := by have := hin i (by omega); have := hin j hj; omega
    have k1 : itN A L (j + (t - j)) v = src := by rw [show j + (t - j) = t by omega]; exact h1
    rw [itN_add, ← e', ← itN_add] at k1
    exact (h2 (i + (t - j)) (by omega)).1 k1
theorem backN_mono {k m : Nat} {v : Int} (h : backN A L src k v = true) (hk : k ≤ m) : backN A L src m v = true := by
  obtain ⟨t, ht, h1⟩ := backN_iff.1 h
  exact backN_iff.2 ⟨t, by omega, h1⟩
theorem backN_step {m : Nat} {v : Int} (h : v ≠ src) (hb : byOk A L v = true) : backN A L src (m + 1) v = backN A L src m (nextN A L v) := by
  rw [backN, if_neg h, hb, Bool.true_and]
end
/-- Is the label of a node sound, but for going back? -/
def nodeOk (A : List (Int × Int × List Int × List Int)) (src start : Int) (hi : Bool) (L : List DLab) (i : Nat) : Bool :=
  if (i : Int) = src then decide ((L.getD i (0, 0)).1 = start) && decide ((L.getD i (0, 0)).2 = -1) else
  if (L.getD i (0, 0)).1 = -1 then decide ((L.getD i (0, 0)).2 = -1) else
  timeB (L.getD i (0, 0)).1 && (byOk A L i && (decide ((A.getD (L.getD i (0, 0)).2.toNat (0, 0, [], [])).2.1 = i) && (timeB (L.getD (nextN A L i).toNat (0, 0)).1 &&
    decide ((T.toArc (A.getD (L.getD i (0, 0)).2.toNat (0, 0, [], []))).passF hi (L.getD (nextN A L i).toNat (0, 0)).1 = (L.getD i (0, 0)).1))))
/-- Does one come back from a node that is reached? -/
def homeOk (A : List (Int × Int × List Int × List Int)) (src : Int) (L : List DLab) (i : Nat) : Bool := decide ((L.getD i (0, 0)).1 = -1) || backN A L src (L.length + 1) i
def soundF (A : List (Int × Int × List Int × List Int)) (src start : Int) (hi : Bool) (L : List DLab) : Bool := (List.range L.length).all fun i => nodeOk A src start hi L i && homeOk A src L i
def tightOk (hi : Bool) (L : List DLab) (a : Int × Int × List Int × List Int) : Bool :=
  if (L.getD a.1.toNat (0, 0)).1 = -1 then true else
  !(timeB ((T.toArc a).passF hi (L.getD a.1.toNat (0, 0)).1) && (decide ((L.getD a.2.1.toNat (0, 0)).1 = -1) || decide ((T.toArc a).passF hi (L.getD a.1.toNat (0, 0)).1 < (L.getD a.2.1.toNat (0, 0)).1)))
def checkF (n : Int) (A : List (Int × Int × List Int × List Int)) (src start : Int) (hi : Bool) (L : List DLab) : Int :=
  if (T.rightR n A && (decide (0 ≤ src) && (decide (src < n) && timeB start))) = false then 1 else
  if (L.length : Int) ≠ n then 2 else
  if (soundF A src start hi L && A.all (tightOk hi L)) = true then 0 else 23
theorem all_range {n : Nat} {p : Nat → Bool} : (List.range n).all p = true ↔ ∀ i, i < n → p i = true := by
  rw [List.all_eq_true]; simp
end Go.Proofs.Ytcjgofcfinbpeaa
