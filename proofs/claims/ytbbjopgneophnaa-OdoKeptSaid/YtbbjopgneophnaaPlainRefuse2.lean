/- The plain mathematics of layer 22 (refuse): masks. -/
import Derived.Test.YtbbjopgneophnaaPlainRefuse
namespace Go.Proofs.Ytbbjopgneophnaa
set_option linter.unusedSimpArgs false
set_option linter.unusedVariables false
/-- A set as bits. -/
def mk (l : List Int) : Nat := l.foldl (fun m i => m ||| 2 ^ i.toNat) 0
theorem mk_snoc (l : List Int) (i : Int) : mk (l ++ [i]) = mk l ||| 2 ^ i.toNat := by unfold mk; rw [List.foldl_append]; rfl
theorem fold_bit (k : Nat) : ∀ (l : List Int) (m : Nat), (l.foldl (fun m i => m ||| 2 ^ i.toNat) m).testBit k = (m.testBit k || l.any fun i => i.toNat == k)
  | [], m => by simp
  | x :: r, m => by
    rw [List.foldl_cons, fold_bit k r, Nat.testBit_or, List.any_cons, Bool.or_assoc]
    congr 2
    rw [Nat.testBit_two_pow, Bool.eq_iff_iff]
    simp
theorem mk_bit (l : List Int) (k : Nat) : (mk l).testBit k = l.any fun i => i.toNat == k := by unfold mk; rw [fold_bit]; simp
theorem mk_lt {l : List Int} {b : Nat} (h : ∀ i ∈ l, 0 ≤ i ∧ i < b) : mk l < 2 ^ b := by
  apply Nat.lt_pow_two_of_testBit
  intro k hk
  rw [mk_bit, List.any_eq_false]
  intro i hi
  have := h i hi
  simp only [beq_iff_eq]
  omega
theorem or_lt {m i b : Nat} (hm : m < 2 ^ b) (hi : i < b) : m ||| 2 ^ i < 2 ^ b := Nat.or_lt_two_pow hm (Nat.pow_lt_pow_right (by omega) hi)
/-- Masks meet where the sets do. -/
theorem mk_meet {o s : List Int} (ho : ∀ i ∈ o, 0 ≤ i) (hs : ∀ i ∈ s, 0 ≤ i) : (mk o &&& mk s = 0) ↔ (s.any fun i => o.contains i) = false := by
  rw [List.any_eq_false]
  constructor
  · intro h i hi hc
    have hio : i ∈ o := by simpa using hc
    have h1 : (mk o).testBit i.toNat = true := by rw [mk_bit, List.any_eq_true]; exact ⟨i, hio, by simp⟩
    have h2 : (mk s).testBit i.toNat = true := by rw [mk_bit, List.any_eq_true]; exact ⟨i, hi, by simp⟩
    have : (mk o &&& mk s).testBit i.toNat = true := by rw [Nat.testBit_and, h1, h2]; rfl
    rw [h] at this
    simp at this
  · intro h
    apply Nat.eq_of_testBit_eq
    intro k
    rw [Nat.testBit_and, Nat.zero_testBit, mk_bit, mk_bit]
    rw [Bool.and_eq_false_imp]
    intro h1
    rw [List.any_eq_true] at h1
    obtain ⟨i, hi, e⟩ := h1
    simp only [beq_iff_eq] at e
    rw [List.any_eq_false]
    intro j hj e'
    simp only [beq_iff_eq] at e'
    have : i = j := by have := ho i hi; have := hs j hj; omega
    subst this
    exact h i hj (by simpa using hi)
def blkM (ms : List Nat) (s : Nat) : Bool := ms.all fun m => !(m &&& s == 0)
theorem blk_mk {opts : List (List Int)} {s : List Int} (ho : ∀ o ∈ opts, ∀ i ∈ o, 0 ≤ i) (hs : ∀ i ∈ s, 0 ≤ i) : blkM (opts.map mk) (mk s) = blkS opts s := by
  unfold blkM blkS
  rw [List.all_map]
  rw [Bool.eq_iff_iff, List.all_eq_true, List.all_eq_true]
  refine ⟨fun h o hm => ?_, fun h o hm => ?_⟩
  · have := h o hm
    simp only [Function.comp, Bool.not_eq_true', beq_eq_false_iff_ne, ne_eq, mk_meet (ho o hm) hs] at this
    simpa using this
  · have := h o hm
    simp only [Function.comp, Bool.not_eq_true', beq_eq_false_iff_ne, ne_eq, mk_meet (ho o hm) hs]
    simpa using this
/-- The search, over masks. -/
def findM (ms : List Nat) (n : Int) : Nat → Int → Nat → Option Nat
  | 0, _, s => if blkM ms s then some s else none
  | m + 1, f, s => (rng f (n - m)).findSome? fun i => findM ms n m (i + 1) (s ||| 2 ^ i.toNat)
theorem findSome_congr {α β : Type} {f g : α → Option β} : ∀ {l : List α}, (∀ x ∈ l, f x = g x) → l.findSome? f = l.findSome? g
  | [], _ => rfl
  | x :: r, h => by
    rw [List.findSome?_cons, List.findSome?_cons, h x (by simp), findSome_congr fun y hy => h y (by simp [hy])]
theorem findSome_map {α β γ : Type} (h : β → γ) (f : α → Option β) : ∀ l : List α, (l.findSome? f).map h = l.findSome? fun x => (f x).map h
  | [] => rfl
  | x :: r => by
    rw [List.findSome?_cons, List.findSome?_cons]
    cases f x with
    | some y => rfl
    | none => exact findSome_map h f r
theorem findM_mk {opts : List (List Int)} {n : Int} (ho : ∀ o ∈ opts, ∀ i ∈ o, 0 ≤ i) : ∀ (m : Nat) (f : Int) (acc : List Int), 0 ≤ f → (∀ i ∈ acc, 0 ≤ i) →
    findM (opts.map mk) n m f (mk acc) = (findI (blkS opts) n m f acc).map mk
  | 0, f, acc, hf, ha => by
    unfold findM findI
    rw [blk_mk ho ha]
    split <;> rfl
  | m + 1, f, acc, hf, ha => by
    unfold findM findI
    rw [findSome_map]
    refine findSome_congr fun i hi => ?_
    have := mem_rng.1 hi
    rw [← mk_snoc, findM_mk ho m (i + 1) (acc ++ [i]) (by omega) (by
      intro j hj
      rcases List.mem_append.1 hj with hj | hj
      · exact ha j hj
      · rw [List.mem_singleton.1 hj]; omega)]
theorem bit_and_lt {o i : Nat} (h : o < 2 ^ i) (j : Nat) (hj : i ≤ j) : o.testBit j = false := Nat.testBit_lt_two_pow (Nat.lt_of_lt_of_le h (Nat.pow_le_pow_right (by omega) hj))
/-- An option that is not blocked, and has no item from f on: nothing is found. -/
theorem find_miss {ms : List Nat} {n : Int} {o : Nat} (hm : o ∈ ms) : ∀ (m : Nat) (f : Int) (s : Nat), 0 ≤ f → o < 2 ^ f.toNat → o &&& s = 0 → findM ms n m f s = none
  | 0, f, s, hf, ho, hs => by
    unfold findM
    rw [if_neg]
    unfold blkM
    rw [List.all_eq_true]
    intro h
    have := h o hm
    rw [hs] at this
    simp at this
  | m + 1, f, s, hf, ho, hs => by
    unfold findM
    rw [List.findSome?_eq_none_iff]
    intro i hi
    have h1 := mem_rng.1 hi
    refine find_miss hm m (i + 1) _ (by omega) (Nat.lt_of_lt_of_le ho (Nat.pow_le_pow_right (by omega) (by omega))) ?_
    apply Nat.eq_of_testBit_eq
    intro k
    rw [Nat.testBit_and, Nat.testBit_or, Nat.zero_testBit, Nat.testBit_two_pow]
    have h2 := congrArg (fun z => Nat.testBit z k) hs
    simp only [Nat.testBit_and, Nat.zero_testBit] at h2
    by_cases e : i.toNat = k
    · subst e
      rw [bit_and_lt ho i.toNat (by omega)]; rfl
    · rw [show (decide (i.toNat = k)) = false from decide_eq_false e, Bool.or_false]
      exact h2
/-- No smaller set: so it is one level down. -/
theorem none_down {ms : List Nat} {n : Int} {m : Nat} {f i : Int} {s : Nat} (hf : f ≤ i) (hi : i < n - m) (h : ∀ k, k < m + 1 → findM ms n k f s = none) : ∀ k, k < m → findM ms n k (i + 1) (s ||| 2 ^ i.toNat) = none := by
  intro k hk
  have := h (k + 1) (by omega)
  unfold findM at this
  rw [List.findSome?_eq_none_iff] at this
  exact this i (mem_rng.2 ⟨hf, by omega⟩)
theorem findM_lt {ms : List Nat} {n : Int} (hn : n ≤ 20) : ∀ (m : Nat) (f : Int) (s S : Nat), s < 2 ^ 20 → findM ms n m f s = some S → S < 2 ^ 20
  | 0, f, s, S, hs, h => by
    unfold findM at h
    split at h
    · injection h with h; subst h; exact hs
    · cases h
  | m + 1, f, s, S, hs, h => by
    unfold findM at h
    obtain ⟨i, hi, h1⟩ := List.exists_of_findSome?_eq_some h
    have h2 := mem_rng.1 hi
    exact findM_lt hn m _ _ _ (or_lt hs (by omega)) h1
/-- How many bits. -/
def len32 (x : Nat) : Nat := if x = 0 then 0 else x.log2 + 1
theorem lt_len32 (x : Nat) : x < 2 ^ len32 x := by
  unfold len32
  split
  · rename_i h; subst h; decide
  · exact Nat.lt_log2_self
end Go.Proofs.Ytbbjopgneophnaa
