/- The plain laws of layer 42 (post), 4: the reference's way; no program in sight. -/
import Derived.Test.YtiahbkjomegkiaaPlainPost3
namespace Go.Proofs.Ytiahbkjomegkiaa
set_option linter.unusedSimpArgs false
set_option linter.unusedVariables false
/-- Which messages have arrived. -/
def hereF (w : DWay) : List Bool := (List.range w.1.length).map fun (k : Nat) => decide (0 ≤ (k : Int) ∧ (k : Int) < w.2.1) || w.2.2.contains (k : Int)
theorem here_len (w : DWay) : (hereF w).length = w.1.length := by unfold hereF; rw [List.length_map, List.length_range]
theorem here_get {w : DWay} {k : Nat} (h : k < w.1.length) : ((hereF w).getD k false = true ↔ arr w k) := by
  unfold hereF arr
  simp [List.getD, h]
theorem here_ext {w : DWay} {H : List Bool} (hl : H.length = w.1.length) (h : ∀ k, k < w.1.length → (H.getD k false = true ↔ arr w k)) : H = hereF w := by
  refine List.ext_getElem (hl.trans (here_len w).symm) fun k h1 h2 => ?_
  have h3 := h k (by omega)
  rw [← here_get (by omega)] at h3
  simp only [List.getD, List.getElem?_eq_getElem, h1, h2, Option.getD_some] at h3
  exact Bool.eq_iff_iff.2 h3
theorem here_set {w v : DWay} {q : Nat} (hq : q < w.1.length) (hs : v.1 = w.1) (h : ∀ k, arr v k ↔ arr w k ∨ k = q) : (hereF w).set q true = hereF v := by
  refine here_ext (by rw [List.length_set, here_len, hs]) fun k hk => ?_
  rw [hs] at hk
  rw [h]
  by_cases c : q = k
  · subst c
    simp [List.getD, here_len, hk]
  · have : ((hereF w).set q true).getD k false = (hereF w).getD k false := by simp [List.getD, c]
    rw [this, here_get hk]
    constructor
    · exact .inl
    · rintro (q | q)
      · exact q
      · omega
def nextM : List Bool → Nat
  | true :: r => nextM r + 1
  | _ => 0
theorem nextM_le : ∀ H : List Bool, nextM H ≤ H.length
  | [] => Nat.le_refl _
  | true :: r => by have := nextM_le r; unfold nextM; simp; omega
  | false :: r => Nat.zero_le _
theorem nextM_step : ∀ (H : List Bool) (j : Nat), j ≤ nextM H → (j < nextM H ↔ j < H.length ∧ H.getD j false = true)
  | [], j, h => by simp [nextM]
  | true :: r, 0, h => by simp [nextM]
  | true :: r, j + 1, h => by
    have := nextM_step r j (by unfold nextM at h; omega)
    unfold nextM
    rw [List.length_cons, show (true :: r).getD (j + 1) false = r.getD j false from rfl]
    constructor
    · intro q; have := this.1 (by omega); exact ⟨by omega, this.2⟩
    · intro q; have := this.2 ⟨by omega, q.2⟩; omega
  | false :: r, j, h => by
    obtain rfl : j = 0 := Nat.le_zero.1 h
    simp [nextM]
theorem next_at : ∀ {H : List Bool} {i : Nat}, i ≤ H.length → (∀ k, k < i → H.getD k false = true) → (i < H.length → H.getD i false = false) → nextM H = i
  | [], i, h, _, _ => by simp at h; subst h; rfl
  | b :: r, 0, _, _, h2 => by
    have := h2 (by simp)
    simp at this
    subst this; rfl
  | b :: r, i + 1, h, h1, h2 => by
    have h0 := h1 0 (by omega)
    simp at h0
    subst h0
    unfold nextM
    rw [next_at (H := r) (i := i) (by simpa using h) (fun k hk => by simpa using h1 (k + 1) (by omega)) (fun hk => by simpa using h2 (by simpa using hk))]
theorem next_here {w : DWay} (h : IsRight w) : nextM (hereF w) = w.2.1.toNat := by
  have h1 := h.low
  have h2 := h.high
  refine next_at (by rw [here_len]; omega) (fun k hk => (here_get (by omega)).2 (.inl (by omega))) fun hk => ?_
  rw [here_len] at hk
  rw [← Bool.not_eq_true, here_get hk]
  rintro (q | q)
  · omega
  · have := h.mem _ q; omega
def idxM (p : Nat → Bool) (a k : Nat) : List Int := ((List.range' a k).filter p).map fun (i : Nat) => (i : Int)
theorem idxM_next (p : Nat → Bool) (a k : Nat) : idxM p a (k + 1) = if p (a + k) = true then idxM p a k ++ [((a + k : Nat) : Int)] else idxM p a k := by
  unfold idxM
  rw [List.range'_1_concat, List.filter_append, List.map_append, List.filter_cons, List.filter_nil]
  split
  · rfl
  · exact List.append_nil _
theorem idxM_len (p : Nat → Bool) (a k : Nat) : (idxM p a k).length ≤ k := by
  unfold idxM
  rw [List.length_map]
  refine Nat.le_trans (List.length_filter_le _ _) ?_
  simp
theorem mem_idxM {p : Nat → Bool} {a k : Nat} {x : Int} : x ∈ idxM p a k ↔ ((a : Int) ≤ x ∧ x < a + k) ∧ p x.toNat = true := by
  unfold idxM
  rw [List.mem_map]
  constructor
  · rintro ⟨i, hi, rfl⟩
    rw [List.mem_filter, List.mem_range'_1] at hi
    exact ⟨by omega, by rw [Int.toNat_natCast]; exact hi.2⟩
  · rintro ⟨h1, h2⟩
    exact ⟨x.toNat, by rw [List.mem_filter, List.mem_range'_1]; exact ⟨by omega, h2⟩, by omega⟩
theorem idxM_pair (p : Nat → Bool) (a k : Nat) : (idxM p a k).Pairwise (· < ·) := by
  unfold idxM
  rw [List.pairwise_map]
  exact List.Pairwise.imp (fun q => Int.ofNat_lt.2 q) ((List.pairwise_lt_range' ..).sublist List.filter_sublist)
theorem sorted_ext : ∀ {a b : List Int}, a.Pairwise (· < ·) → b.Pairwise (· < ·) → (∀ x, x ∈ a ↔ x ∈ b) → a = b
  | [], [], _, _, _ => rfl
  | [], y :: s, _, _, h => absurd ((h y).2 (by simp)) (by simp)
  | x :: r, [], _, _, h => absurd ((h x).1 (by simp)) (by simp)
  | x :: r, y :: s, ha, hb, h => by
    rw [List.pairwise_cons] at ha hb
    have hxy : x = y := by
      rcases List.mem_cons.1 ((h x).1 (by simp)) with c | c
      · exact c
      · rcases List.mem_cons.1 ((h y).2 (by simp)) with d | d
        · exact d.symm
        · have := hb.1 _ c
          have := ha.1 _ d
          omega
    subst hxy
    rw [sorted_ext ha.2 hb.2 fun z => ?_]
    constructor
    · intro hz
      rcases List.mem_cons.1 ((h z).1 (by simp [hz])) with c | c
      · have := ha.1 _ hz; omega
      · exact c
    · intro hz
      rcases List.mem_cons.1 ((h z).2 (by simp [hz])) with c | c
      · have := hb.1 _ hz; omega
      · exact c
def earlyM (w : List ByteArray × List Bool) : List Int := idxM (fun i => w.2.getD i false) (nextM w.2) (w.1.length - nextM w.2)
def againM (w : List ByteArray × List Bool) : List Int := idxM (fun i => !w.2.getD i false) 0 w.1.length
theorem early_here {w : DWay} (h : IsRight w) : earlyM (w.1, hereF w) = w.2.2 := by
  have h1 := h.low
  have h2 := h.high
  refine sorted_ext (idxM_pair _ _ _) h.ord fun x => ?_
  unfold earlyM
  dsimp only
  rw [mem_idxM, next_here h]
  constructor
  · rintro ⟨h3, h4⟩
    rw [here_get (by omega)] at h4
    rcases h4 with q | q
    · omega
    · rw [show ((x.toNat : Nat) : Int) = x by omega] at q; exact q
  · intro hx
    have h3 := h.mem x hx
    refine ⟨by omega, ?_⟩
    rw [here_get (by omega)]
    right
    rw [show ((x.toNat : Nat) : Int) = x by omega]; exact hx
theorem again_here {w : DWay} (h : IsRight w) : againM (w.1, hereF w) = againF w := by
  refine sorted_ext (idxM_pair _ _ _) (again_pair w) fun x => ?_
  rw [again_mem h]
  unfold againM
  dsimp only
  rw [mem_idxM, Bool.not_eq_true', ← Bool.not_eq_true]
  constructor
  · rintro ⟨h3, h4⟩
    rw [here_get (by omega), show ((x.toNat : Nat) : Int) = x by omega] at h4
    exact ⟨by omega, h4⟩
  · rintro ⟨h3, h4⟩
    rw [here_get (by omega), show ((x.toNat : Nat) : Int) = x by omega]
    exact ⟨by omega, h4⟩
theorem here_send {w : DWay} (h : IsRight w) (e : ByteArray) : hereF (w.1 ++ [e], w.2.1, w.2.2) = hereF w ++ [false] := by
  have h2 := h.high
  symm
  refine here_ext (by rw [List.length_append, here_len, List.length_append]; rfl) fun k hk => ?_
  dsimp only at hk
  rw [List.length_append, List.length_singleton] at hk
  have harr : arr (w.1 ++ [e], w.2.1, w.2.2) k ↔ arr w k := Iff.rfl
  rw [harr]
  by_cases c : k < w.1.length
  · have : (hereF w ++ [false]).getD k false = (hereF w).getD k false := by simp [List.getD, List.getElem?_append, here_len, c]
    rw [this, here_get c]
  · obtain rfl : k = w.1.length := by omega
    have : (hereF w ++ [false]).getD w.1.length false = false := by simp [List.getD, List.getElem?_append, here_len]
    rw [this]
    constructor
    · intro q; exact absurd q (by simp)
    · rintro (q | q)
      · omega
      · have := h.mem _ q; omega
theorem here_zero (S : List ByteArray) : hereF (S, 0, []) = List.replicate S.length false := by
  symm
  refine here_ext (by rw [List.length_replicate]) fun k hk => ?_
  dsimp only at hk
  have : (List.replicate S.length false).getD k false = false := by simp [List.getD, hk]
  rw [this]
  constructor
  · intro q; exact absurd q (by simp)
  · rintro (q | q)
    · dsimp only at q; omega
    · exact absurd q List.not_mem_nil
theorem right_snoc {S : List ByteArray} {n e : Int} {L : List Int} (h : IsRight (S, n, L)) (h1 : n < e) (h2 : e < S.length) (h3 : 0 < L.length → L.getD (L.length - 1) 0 < e) : IsRight (S, n, L ++ [e]) := by
  refine ⟨h.few, h.low, h.high, ?_, fun x hx => ?_⟩
  · dsimp only
    rw [List.pairwise_append]
    refine ⟨h.ord, List.pairwise_singleton _ _, fun a ha b hb => ?_⟩
    rw [List.mem_singleton] at hb
    subst hb
    have hL : 0 < L.length := List.length_pos_of_mem ha
    obtain ⟨k, hk, e1⟩ := getD_of_mem ha
    have := h3 hL
    rcases Nat.lt_or_ge k (L.length - 1) with c | c
    · have ho := h.ord
      dsimp only at ho
      rw [List.pairwise_iff_getElem] at ho
      have := ho k (L.length - 1) hk (by omega) c
      simp only [List.getD, List.getElem?_eq_getElem, hk, show L.length - 1 < L.length by omega, Option.getD_some] at *
      omega
    · obtain rfl : k = L.length - 1 := by omega
      omega
  · rcases List.mem_append.1 hx with hx | hx
    · exact h.mem x hx
    · rw [List.mem_singleton] at hx; subst hx; exact ⟨h1, h2⟩
theorem take_snoc {E : List Int} {j : Nat} (h : j < E.length) : E.take (j + 1) = E.take j ++ [E.getD j 0] := by
  rw [List.take_succ_eq_append_getElem h]
  simp [List.getD, h]
theorem open_bad {S : List ByteArray} {n : Int} {E : List Int} (h : IsRight (S, n, E)) {j : Nat} (hj : j < E.length) : (n < E.getD j 0 ∧ E.getD j 0 < S.length) ∧ (0 < j → E.getD (j - 1) 0 < E.getD j 0) := by
  refine ⟨h.mem _ (mem_of_getD hj), fun h0 => ?_⟩
  have ho := h.ord
  dsimp only at ho
  rw [List.pairwise_iff_getElem] at ho
  have := ho (j - 1) j (by omega) hj (by omega)
  simpa [List.getD, hj, show j - 1 < E.length by omega] using this
theorem open_step {S : List ByteArray} {n : Int} {E : List Int} {j : Nat} (hj : j < E.length) (h : IsRight (S, n, E.take j)) (h1 : n < E.getD j 0) (h2 : E.getD j 0 < S.length) (h3 : 0 < j → E.getD (j - 1) 0 < E.getD j 0) :
    IsRight (S, n, E.take (j + 1)) ∧ (hereF (S, n, E.take j)).set (E.getD j 0).toNat true = hereF (S, n, E.take (j + 1)) := by
  have hl : (E.take j).length = j := by rw [List.length_take]; omega
  have hn := h.low
  dsimp only at hn
  rw [take_snoc hj]
  refine ⟨right_snoc h h1 h2 fun q => ?_, here_set (by dsimp only; omega) rfl fun k => ?_⟩
  · rw [hl] at q ⊢
    have : (E.take j).getD (j - 1) 0 = E.getD (j - 1) 0 := by simp [List.getD, show j - 1 < j by omega]
    rw [this]
    exact h3 q
  · unfold arr
    dsimp only
    rw [List.mem_append, List.mem_singleton, ← or_assoc, show (((E.getD j 0).toNat : Nat) : Int) = E.getD j 0 by omega]
end Go.Proofs.Ytiahbkjomegkiaa
