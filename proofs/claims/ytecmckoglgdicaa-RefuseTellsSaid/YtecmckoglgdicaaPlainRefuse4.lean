/- The plain mathematics of layer 22 (refuse): the smallest set, and its witnesses. -/
import Derived.Test.YtecmckoglgdicaaPlainRefuse3
namespace Go.Proofs.Ytecmckoglgdicaa
set_option linter.unusedSimpArgs false
set_option linter.unusedVariables false
/-- The smallest set, the first one in order. -/
def smallI (n : Int) (opts : List (List Int)) : List Int := ((List.range (n.toNat + 1)).findSome? fun m => findI (blkS opts) n m 0 []).getD []
/-- The first option that only this element blocks. -/
def wit (opts : List (List Int)) (S : List Int) (x : Int) : Int := idxF (fun o => (S.filter fun i => o.contains i) == [x]) opts
def smallF (n : Int) (opts : List (List Int)) : List Int × List Int × Int × Unit :=
  if rightO n opts then (if opts.any List.isEmpty then ([], [], 4, ()) else (smallI n opts, (smallI n opts).map (wit opts (smallI n opts)), 0, ())) else ([], [], 1, ())
theorem right_inc {n : Int} {opts : List (List Int)} (h : rightO n opts = true) : 0 ≤ n ∧ n ≤ 20 ∧ opts.length ≤ 400 ∧ ∀ o ∈ opts, Inc n 0 o := by
  unfold rightO at h
  simp only [Bool.and_eq_true, decide_eq_true_eq, List.all_eq_true] at h
  exact ⟨h.1.1.1, h.1.1.2, h.1.2, fun o ho => incB_iff.1 (h.2 o ho)⟩
theorem inc_rng {n : Int} : ∀ (k : Nat) (f : Int), (n - f).toNat = k → Inc n f (rng f n)
  | 0, f, h => by rw [rng_nil (by omega)]; trivial
  | k + 1, f, h => by
    rw [rng_cons (by omega)]
    exact ⟨Int.le_refl _, by omega, inc_rng k (f + 1) (by omega)⟩
theorem rng_len (f n : Int) : (rng f n).length = (n - f).toNat := by unfold rng; simp
theorem findSome_first {α : Type} (f : Nat → Option α) : ∀ (N : Nat), (∃ m, m ≤ N ∧ (f m).isSome = true) → ∃ m S, m ≤ N ∧ f m = some S ∧ (∀ k, k < m → f k = none) ∧ (List.range (N + 1)).findSome? f = some S := by
  intro N
  induction N with
  | zero =>
    rintro ⟨m, hm, hs⟩
    obtain rfl : m = 0 := by omega
    obtain ⟨S, e⟩ := Option.isSome_iff_exists.1 hs
    exact ⟨0, S, Nat.le_refl _, e, fun k hk => by omega, by simp [List.range_succ, e]⟩
  | succ N ih =>
    rintro ⟨m, hm, hs⟩
    by_cases h : ∃ m, m ≤ N ∧ (f m).isSome = true
    · obtain ⟨m', S, h1, h2, h3, h4⟩ := ih h
      refine ⟨m', S, by omega, h2, h3, ?_⟩
      rw [List.range_succ, List.findSome?_append, h4]; rfl
    · have hn : ∀ k, k ≤ N → f k = none := fun k hk => by
        cases e : f k with
        | none => rfl
        | some y => exact absurd ⟨k, hk, by rw [e]; rfl⟩ h
      have e : m = N + 1 := by
        by_cases c : m ≤ N
        · rw [hn m c] at hs; cases hs
        · omega
      subst e
      obtain ⟨S, e⟩ := Option.isSome_iff_exists.1 hs
      refine ⟨N + 1, S, Nat.le_refl _, e, fun k hk => hn k (by omega), ?_⟩
      rw [List.range_succ, List.findSome?_append]
      have : (List.range (N + 1)).findSome? f = none := by
        rw [List.findSome?_eq_none_iff]
        intro k hk
        exact hn k (by have := List.mem_range.1 hk; omega)
      rw [this]
      simp [e]
/-- A set is found, as every option has an item. -/
theorem small_spec {n : Int} {opts : List (List Int)} (h : rightO n opts = true) (he : opts.any List.isEmpty = false) :
    ∃ m : Nat, (m : Int) ≤ n ∧ findI (blkS opts) n m 0 [] = some (smallI n opts) ∧ ∀ k, k < m → findI (blkS opts) n k 0 [] = none := by
  obtain ⟨h1, h2, h3, h4⟩ := right_inc h
  have full : (findI (blkS opts) n n.toNat 0 []).isSome = true := by
    cases e : findI (blkS opts) n n.toNat 0 [] with
    | some y => rfl
    | none =>
      have := findI_none (E := rng 0 n) e (by rw [rng_len]; omega) (inc_rng _ 0 rfl)
      rw [List.nil_append] at this
      have hb : blkS opts (rng 0 n) = true := by
        unfold blkS
        rw [List.all_eq_true]
        intro o ho
        rw [List.any_eq_true]
        rw [List.any_eq_false] at he
        have hne := he o ho
        cases o with
        | nil => simp at hne
        | cons x r =>
          have hx := (h4 _ ho).mem x (by simp)
          exact ⟨x, mem_rng.2 hx, by simp⟩
      rw [hb] at this; cases this
  obtain ⟨m, S, k1, k2, k3, k4⟩ := findSome_first (fun m => findI (blkS opts) n m 0 []) n.toNat ⟨_, Nat.le_refl _, full⟩
  refine ⟨m, by omega, ?_, k3⟩
  unfold smallI
  rw [k4]; exact k2
theorem Inc.nodup {n : Int} : ∀ {l : List Int} {f : Int}, Inc n f l → l.Nodup
  | [], _, _ => List.nodup_nil
  | x :: r, f, ⟨h1, h2, h3⟩ => by
    rw [List.nodup_cons]
    exact ⟨fun hm => by have := h3.mem x hm; omega, h3.nodup⟩
theorem inc_any_bit {n f : Int} {l : List Int} (h : Inc n f l) (hf : 0 ≤ f) (k : Nat) : (l.any fun i => i.toNat == k) = decide ((k : Int) ∈ l) := by
  rw [Bool.eq_iff_iff, List.any_eq_true, decide_eq_true_eq]
  constructor
  · rintro ⟨i, hi, e⟩
    simp only [beq_iff_eq] at e
    have := h.mem i hi
    rwa [show (k : Int) = i by omega]
  · intro hk
    exact ⟨_, hk, by simp⟩
/-- A mask's bits are the set. -/
theorem bits_inc {n f : Int} {l : List Int} (h : Inc n f l) (hf : 0 ≤ f) (N : Nat) (hN : n ≤ N) : (((List.range N).filter fun i => (mk l).testBit i).map fun (i : Nat) => (i : Int)) = l := by
  have key : ∀ (d : Nat) (f : Nat) (l : List Int), (N - f) = d → Inc n (f : Int) l → (((List.range' f (N - f)).filter fun (i : Nat) => decide ((i : Int) ∈ l)).map fun (i : Nat) => (i : Int)) = l := by
    intro d
    induction d with
    | zero =>
      intro f l hd hi
      have : l = [] := by
        cases l with
        | nil => rfl
        | cons x r => have := hi.1; have := hi.2.1; omega
      subst this
      rw [hd]; rfl
    | succ d ih =>
      intro f l hd hi
      rw [show N - f = (N - (f + 1)) + 1 by omega, List.range'_succ]
      cases l with
      | nil => simp
      | cons x r =>
        by_cases e : x = f
        · subst e
          rw [List.filter_cons_of_pos (by simp), List.map_cons]
          congr 1
          have h2 := ih (f + 1) r (by omega) hi.2.2
          rw [← h2]
          congr 1
          apply List.filter_congr
          intro i hi'
          have := List.mem_range'_1.1 hi'
          simp only [List.mem_cons, decide_eq_decide]
          rw [h2]
          constructor
          · rintro (q | q)
            · omega
            · exact q
          · exact .inr
        · rw [List.filter_cons_of_neg (by
            simp only [decide_eq_true_eq]
            intro hm
            rcases List.mem_cons.1 hm with q | q
            · exact e q.symm
            · have := hi.1; have := (hi.2.2).mem _ q; omega)]
          exact ih (f + 1) (x :: r) (by omega) ⟨by have := hi.1; omega, hi.2.1, hi.2.2⟩
  have := key N 0 l (by omega) (h.mono (by omega))
  rw [Nat.sub_zero, ← List.range_eq_range'] at this
  rw [← this]
  congr 1
  apply List.filter_congr
  intro i _
  rw [mk_bit, this, inc_any_bit h hf]
/-- One element alone is in an option: by masks, and by lists. -/
theorem meet_one {n f g : Int} {o S : List Int} (ho : Inc n f o) (hf : 0 ≤ f) (hS : Inc n g S) (hg : 0 ≤ g) (i : Nat) : (mk o &&& mk S = 2 ^ i) ↔ (S.filter fun x => o.contains x) = [(i : Int)] := by
  have bit : ∀ k, (mk o &&& mk S).testBit k = decide ((k : Int) ∈ S.filter fun x => o.contains x) := by
    intro k
    rw [Nat.testBit_and, mk_bit, mk_bit, inc_any_bit ho hf, inc_any_bit hS hg, Bool.eq_iff_iff]
    simp [List.mem_filter, and_comm]
  constructor
  · intro h
    have nd : (S.filter fun x => o.contains x).Nodup := hS.nodup.filter _
    have mem : ∀ x ∈ S.filter (fun x => o.contains x), x = (i : Int) := by
      intro x hx
      have hx' := hS.mem x (List.mem_filter.1 hx).1
      have := bit x.toNat
      rw [h, Nat.testBit_two_pow, Int.toNat_of_nonneg (by omega), decide_eq_true hx] at this
      simp only [decide_eq_true_eq] at this
      omega
    have hi : (i : Int) ∈ S.filter (fun x => o.contains x) := by
      have := bit i
      rw [h, Nat.testBit_two_pow] at this
      simpa using this.symm
    cases hl : S.filter (fun x => o.contains x) with
    | nil => rw [hl] at hi; cases hi
    | cons x r =>
      rw [hl] at nd mem
      have e1 := mem x (by simp)
      cases r with
      | nil => rw [e1]
      | cons y s =>
        have e2 := mem y (by simp)
        rw [List.nodup_cons] at nd
        exact absurd (by rw [e1, e2]; simp) nd.1
  · intro h
    apply Nat.eq_of_testBit_eq
    intro k
    rw [bit, h, Nat.testBit_two_pow, Bool.eq_iff_iff]
    simp only [decide_eq_true_eq, List.mem_singleton]
    omega
theorem u32_bit {m k : Nat} (hm : m < 4294967296) (hk : k < 30) : (IntKind.u32.wrap (BitVec.ofInt IntKind.u32.bits ((m : Int).fdiv (2 ^ (Nat.min k IntKind.u32.bits))) &&& BitVec.ofInt IntKind.u32.bits 1).toNat = 1) ↔ m.testBit k = true := by
  have e1 : IntKind.u32.bits = 32 := rfl
  have e2 : ((2 : Int) ^ k) = ((2 ^ k : Nat) : Int) := by simp
  have e3 : (m : Int).fdiv (2 ^ (Nat.min k IntKind.u32.bits)) = ((m / 2 ^ k : Nat) : Int) := by
    rw [e1, show Nat.min k 32 = k from Nat.min_eq_left (by omega), e2, Int.fdiv_eq_ediv_of_nonneg _ (Int.natCast_nonneg _)]
    simp
  have hd : m / 2 ^ k < 4294967296 := Nat.lt_of_le_of_lt (Nat.div_le_self _ _) (by omega)
  have e4 : (BitVec.ofInt IntKind.u32.bits ((m / 2 ^ k : Nat) : Int) &&& BitVec.ofInt IntKind.u32.bits 1).toNat = m / 2 ^ k % 2 := by
    show (BitVec.ofInt 32 ((m / 2 ^ k : Nat) : Int) &&& BitVec.ofInt 32 ((1 : Nat) : Int)).toNat = _
    rw [BitVec.ofInt_natCast, BitVec.ofInt_natCast, BitVec.toNat_and, BitVec.toNat_ofNat, BitVec.toNat_ofNat, Nat.mod_eq_of_lt hd]
    exact Nat.and_one_is_mod _
  rw [e3, e4, u32_wrap (by omega), Nat.testBit_eq_decide_div_mod_eq]
  simp only [decide_eq_true_eq]
  omega
end Go.Proofs.Ytecmckoglgdicaa
