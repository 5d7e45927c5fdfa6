/- The plain mathematics of layer 22 (refuse), for the laws. -/
import Derived.Test.YtecmckoglgdicaaPlainRefuse4
namespace Go.Proofs.Ytecmckoglgdicaa
set_option linter.unusedSimpArgs false
set_option linter.unusedVariables false
theorem Inc.sub {n : Int} {l' l : List Int} (h : l'.Sublist l) : ∀ {f : Int}, Inc n f l → Inc n f l' := by
  induction h with
  | slnil => intro f h; exact h
  | cons a _ ih => intro f h; exact (ih h.2.2).mono (by have := h.1; omega)
  | cons_cons a _ ih => intro f h; exact ⟨h.1, h.2.1, ih h.2.2⟩
theorem inc_lt {n : Int} : ∀ {l : List Int} {f : Int} {i j : Nat}, Inc n f l → i < j → j < l.length → l.getD i 0 < l.getD j 0
  | [], _, i, j, _, _, h => by simp at h
  | x :: r, f, i, 0, _, h, _ => by omega
  | x :: r, f, 0, j + 1, h, _, hj => by
    have hj' : j < r.length := by simpa using hj
    have := h.2.2.mem (r.getD j 0) (getD_mem hj')
    simp only [List.getD_cons_zero, List.getD_cons_succ]
    omega
  | x :: r, f, i + 1, j + 1, h, hij, hj => by
    simp only [List.getD_cons_succ]
    exact inc_lt h.2.2 (by omega) (by simpa using hj)
/-- What the smallest set is. -/
structure Least (n : Int) (opts : List (List Int)) (S : List Int) : Prop where
  inc : Inc n 0 S
  blk : blkS opts S = true
  least : ∀ E, Inc n 0 E → blkS opts E = true → S.length ≤ E.length
  first : ∀ E, Inc n 0 E → blkS opts E = true → E.length = S.length → lexlt E S = false
theorem least_small {n : Int} {opts : List (List Int)} (h : rightO n opts = true) (he : opts.any List.isEmpty = false) : Least n opts (smallI n opts) ∧ ((smallI n opts).length : Int) ≤ n := by
  obtain ⟨m, hm1, hm2, hm3⟩ := small_spec h he
  obtain ⟨E, e1, e2, e3, e4, e5⟩ := findI_some hm2
  rw [List.nil_append] at e1
  subst e1
  refine ⟨⟨e3, e4, fun E hi hb => ?_, fun E hi hb hl => e5 E (by omega) hi hb⟩, by omega⟩
  by_cases c : E.length < m
  · have := findI_none (hm3 _ c) rfl hi
    rw [List.nil_append, hb] at this; cases this
  · omega
theorem smallF_ok {n : Int} {opts : List (List Int)} (h : rightO n opts = true) (he : opts.any List.isEmpty = false) : smallF n opts = (smallI n opts, (smallI n opts).map (wit opts (smallI n opts)), 0, ()) := by
  unfold smallF; rw [if_pos h, if_neg (by rw [he]; simp)]
theorem smallF_or (n : Int) (opts : List (List Int)) : (rightO n opts = true ∧ opts.any List.isEmpty = false ∧ smallF n opts = (smallI n opts, (smallI n opts).map (wit opts (smallI n opts)), 0, ())) ∨ (∃ e : Int, (e = 1 ∨ e = 4) ∧ smallF n opts = ([], [], e, ())) := by
  by_cases h : rightO n opts = true
  · by_cases he : opts.any List.isEmpty = true
    · right; exact ⟨4, .inr rfl, by unfold smallF; rw [if_pos h, if_pos he]⟩
    · left; have he' : opts.any List.isEmpty = false := Bool.not_eq_true _ ▸ he
      exact ⟨h, he', smallF_ok h he'⟩
  · right; exact ⟨1, .inl rfl, by unfold smallF; rw [if_neg h]⟩
/-- A part of the set does not block. -/
theorem Least.part {n : Int} {opts : List (List Int)} {S : List Int} (h : Least n opts S) {k : Nat} (hk : k < S.length) : Inc n 0 (S.take k ++ S.drop (k + 1)) ∧ blkS opts (S.take k ++ S.drop (k + 1)) = false := by
  have hs : (S.take k ++ S.drop (k + 1)).Sublist S := by
    have e : S = S.take k ++ S.drop k := (List.take_append_drop k S).symm
    have h2 : (S.take k ++ S.drop (k + 1)).Sublist (S.take k ++ S.drop k) := by
      refine List.Sublist.append (List.Sublist.refl _) ?_
      rw [show S.drop (k + 1) = (S.drop k).drop 1 by rw [List.drop_drop]]
      exact List.drop_sublist _ _
    rwa [← e] at h2
  have hi := h.inc.sub hs
  refine ⟨hi, ?_⟩
  cases hb : blkS opts (S.take k ++ S.drop (k + 1)) with
  | false => rfl
  | true =>
    have := h.least _ hi hb
    rw [List.length_append, List.length_take, List.length_drop] at this
    omega
theorem split_at {S : List Int} {k : Nat} (hk : k < S.length) : S = S.take k ++ S.getD k 0 :: S.drop (k + 1) := by
  rw [← drop_getD (d := 0) hk, List.take_append_drop]
/-- Only this element of the set is in the option. -/
theorem only_iff {S o : List Int} (nd : S.Nodup) {k : Nat} (hk : k < S.length) : ((S.filter fun i => o.contains i) == [S.getD k 0]) = (blkS [o] [S.getD k 0] && !blkS [o] (S.take k ++ S.drop (k + 1))) := by
  have e := split_at hk
  generalize S.getD k 0 = x at *
  generalize hA : S.take k = A at *
  generalize hB : S.drop (k + 1) = B at *
  subst e
  have b1 : blkS [o] [x] = o.contains x := by simp [blkS]
  have b2 : blkS [o] (A ++ B) = ((A.any fun i => o.contains i) || (B.any fun i => o.contains i)) := by simp [blkS]
  rw [b1, b2, Bool.eq_iff_iff, beq_iff_eq, List.filter_append]
  rw [List.nodup_append, List.nodup_cons] at nd
  constructor
  · intro h
    have hx : x ∈ (A.filter fun i => o.contains i) ++ ((x :: B).filter fun i => o.contains i) := by rw [h]; simp
    have hxo : o.contains x = true := by
      rcases List.mem_append.1 hx with q | q <;> exact (List.mem_filter.1 q).2
    rw [List.filter_cons_of_pos hxo] at h
    have hA0 : (A.filter fun i => o.contains i) = [] := by
      cases q : A.filter fun i => o.contains i with
      | nil => rfl
      | cons a r => rw [q] at h; simp at h
    have hB0 : (B.filter fun i => o.contains i) = [] := by
      rw [hA0, List.nil_append] at h
      injection h
    rw [List.filter_eq_nil_iff] at hA0 hB0
    rw [hxo]
    simp only [Bool.true_and, Bool.not_eq_true', Bool.or_eq_false_iff, List.any_eq_false]
    exact ⟨hA0, hB0⟩
  · intro h
    simp only [Bool.and_eq_true, Bool.not_eq_true', Bool.or_eq_false_iff, List.any_eq_false] at h
    obtain ⟨h1, h2, h3⟩ := h
    rw [List.filter_cons_of_pos h1, List.filter_eq_nil_iff.2 h2, List.filter_eq_nil_iff.2 h3]; rfl
theorem idxF_first {α : Type} {p : α → Bool} {d : α} : ∀ {l : List α} {i : Nat}, (i : Int) < idxF p l → p (l.getD i d) = false
  | [], i, h => by simp [idxF] at h; omega
  | x :: r, i, h => by
    unfold idxF at h
    by_cases hx : p x = true
    · rw [if_pos hx] at h; omega
    · rw [if_neg hx] at h
      split at h
      · omega
      · cases i with
        | zero => simpa using hx
        | succ i => simpa using idxF_first (p := p) (d := d) (l := r) (i := i) (by omega)
theorem blkS_cons (o : List Int) (opts : List (List Int)) (s : List Int) : blkS (o :: opts) s = ((s.any fun i => o.contains i) && blkS opts s) := rfl
/-- Each element has a witness. -/
theorem Least.witness {n : Int} {opts : List (List Int)} {S : List Int} (h : Least n opts S) {k : Nat} (hk : k < S.length) : 0 ≤ wit opts S (S.getD k 0) := by
  have h2 := (h.part hk).2
  unfold wit
  rw [idxF_any, List.any_eq_true]
  unfold blkS at h2
  rw [← Bool.not_eq_true, List.all_eq_true] at h2
  simp only [Classical.not_forall] at h2
  obtain ⟨o, ho, h3⟩ := h2
  refine ⟨o, ho, ?_⟩
  rw [only_iff h.inc.nodup hk, Bool.and_eq_true]
  have hb := h.blk
  unfold blkS at hb
  rw [List.all_eq_true] at hb
  have hbo := hb o ho
  have e := split_at hk
  have h4 : ((S.take k ++ S.drop (k + 1)).any fun i => o.contains i) = false := by simpa using h3
  refine ⟨?_, by rw [blkS_cons, h4]; rfl⟩
  rw [e] at hbo
  rw [List.any_append] at h4 hbo
  rw [List.any_cons] at hbo
  rw [Bool.or_eq_false_iff] at h4
  rw [h4.1, h4.2] at hbo
  rw [blkS_cons]
  simpa [blkS] using hbo
theorem Least.wits {n : Int} {opts : List (List Int)} {S : List Int} (h : Least n opts S) {k : Nat} (hk : k < S.length) :
    ∃ q : Nat, wit opts S (S.getD k 0) = (q : Int) ∧ q < opts.length ∧ blkS [opts.getD q []] [S.getD k 0] = true ∧ blkS [opts.getD q []] (S.take k ++ S.drop (k + 1)) = false ∧
      ∀ i, i < q → (blkS [opts.getD i []] [S.getD k 0] && !blkS [opts.getD i []] (S.take k ++ S.drop (k + 1))) = false := by
  have w0 := h.witness hk
  obtain ⟨w1, w2⟩ := idxF_hit (d := ([] : List Int)) w0
  refine ⟨(wit opts S (S.getD k 0)).toNat, (Int.toNat_of_nonneg w0).symm, by unfold wit at *; omega, ?_, ?_, fun i hi => ?_⟩
  · rw [only_iff h.inc.nodup hk, Bool.and_eq_true] at w2
    exact w2.1
  · rw [only_iff h.inc.nodup hk, Bool.and_eq_true, Bool.not_eq_true'] at w2
    exact w2.2
  · have := idxF_first (p := fun o => (S.filter fun i => o.contains i) == [S.getD k 0]) (d := ([] : List Int)) (l := opts) (i := i) (by unfold wit at hi w0; omega)
    rwa [only_iff h.inc.nodup hk] at this
theorem one_slice {α : Type} {d : α} {l : List α} {i : Nat} (h : i < l.length) : (l.take (i + 1)).drop i = [l.getD i d] := by
  rw [take_getD (d := d) h, List.drop_append_of_le_length (by rw [List.length_take]; omega), List.drop_of_length_le (by rw [List.length_take]; omega)]; rfl
theorem bits_is_inc (m : Nat) (N : Nat) : Inc (N : Int) 0 (((List.range N).filter fun i => m.testBit i).map fun (i : Nat) => (i : Int)) := by
  have key : ∀ (d f : Nat), f + d = N → Inc (N : Int) (f : Int) (((List.range' f d).filter fun i => m.testBit i).map fun (i : Nat) => (i : Int)) := by
    intro d
    induction d with
    | zero => intro f _; trivial
    | succ d ih =>
      intro f hf
      rw [List.range'_succ]
      have := ih (f + 1) (by omega)
      by_cases c : m.testBit f = true
      · rw [List.filter_cons_of_pos c, List.map_cons]
        exact ⟨Int.le_refl _, by omega, this⟩
      · rw [List.filter_cons_of_neg c]
        exact this.mono (by omega)
  have := key N 0 (by omega)
  rwa [← List.range_eq_range'] at this
/-- The set hangs on what blocks alone. -/
theorem small_congr {n : Int} {o p : List (List Int)} (h : ∀ s, blkS o s = blkS p s) : smallI n o = smallI n p := by
  unfold smallI
  congr 1
  have : (fun m => findI (blkS o) n m 0 []) = fun m => findI (blkS p) n m 0 [] := funext fun m => findI_congr h m 0 []
  rw [this]
theorem blkS_perm {o p : List (List Int)} (h : o.Perm p) (s : List Int) : blkS o s = blkS p s := by
  unfold blkS
  rw [Bool.eq_iff_iff, List.all_eq_true, List.all_eq_true]
  exact ⟨fun q x hx => q x (h.mem_iff.2 hx), fun q x hx => q x (h.mem_iff.1 hx)⟩
theorem right_permO {n : Int} {o p : List (List Int)} (h : o.Perm p) : rightO n o = rightO n p := by
  unfold rightO
  rw [h.length_eq]
  congr 1
  rw [Bool.eq_iff_iff, List.all_eq_true, List.all_eq_true]
  exact ⟨fun q x hx => q x (h.mem_iff.2 hx), fun q x hx => q x (h.mem_iff.1 hx)⟩
theorem empty_perm {o p : List (List Int)} (h : o.Perm p) : o.any List.isEmpty = p.any List.isEmpty := by
  rw [Bool.eq_iff_iff, List.any_eq_true, List.any_eq_true]
  exact ⟨fun ⟨x, hx, e⟩ => ⟨x, h.mem_iff.1 hx, e⟩, fun ⟨x, hx, e⟩ => ⟨x, h.mem_iff.2 hx, e⟩⟩
theorem blkS_snoc (o : List (List Int)) (x s : List Int) : blkS (o ++ [x]) s = (blkS o s && s.any fun i => x.contains i) := by
  unfold blkS; rw [List.all_append]; simp
theorem right_snoc {n : Int} {o : List (List Int)} {x : List Int} (hl : o.length ≤ 399) : rightO n (o ++ [x]) = (rightO n o && incB n 0 x) := by
  unfold rightO
  rw [List.all_append, List.length_append, decide_eq_true (show o.length + [x].length ≤ 400 by simp; omega), decide_eq_true (show o.length ≤ 400 by omega)]
  simp [Bool.and_assoc]
theorem empty_snoc (o : List (List Int)) (x : List Int) : (o ++ [x]).any List.isEmpty = (o.any List.isEmpty || x.isEmpty) := by simp
/-- A sorted list with one more element. -/
theorem inc_insert {n : Int} (x : Int) : ∀ {S : List Int} {f : Int}, Inc n f S → f ≤ x → x < n → ∃ T, Inc n f T ∧ T.length ≤ S.length + 1 ∧ (∀ i ∈ S, i ∈ T) ∧ x ∈ T
  | [], f, _, h1, h2 => ⟨[x], ⟨h1, h2, trivial⟩, by simp, by simp, by simp⟩
  | y :: r, f, ⟨a1, a2, a3⟩, h1, h2 => by
    by_cases c : x < y
    · exact ⟨x :: y :: r, ⟨h1, h2, by omega, a2, a3⟩, by simp, fun i hi => by simp at hi ⊢; exact .inr hi, by simp⟩
    · by_cases e : x = y
      · subst e; exact ⟨x :: r, ⟨a1, a2, a3⟩, by simp, fun i hi => hi, by simp⟩
      · obtain ⟨T, t1, t2, t3, t4⟩ := inc_insert x a3 (by omega) h2
        refine ⟨y :: T, ⟨a1, a2, t1⟩, by simp; omega, fun i hi => ?_, by simp [t4]⟩
        rcases List.mem_cons.1 hi with rfl | hi
        · simp
        · simp [t3 i hi]
theorem more_size {n : Int} {o : List (List Int)} {x S W : List Int} (hS : Least n o S) (hW : Least n (o ++ [x]) W) (hx : Inc n 0 x) (hne : x.isEmpty = false) : S.length ≤ W.length ∧ W.length ≤ S.length + 1 := by
  constructor
  · have := hW.blk
    rw [blkS_snoc, Bool.and_eq_true] at this
    exact hS.least W hW.inc this.1
  · cases x with
    | nil => simp at hne
    | cons z r =>
      obtain ⟨T, t1, t2, t3, t4⟩ := inc_insert z hS.inc hx.1 hx.2.1
      have hb : blkS (o ++ [z :: r]) T = true := by
        rw [blkS_snoc, Bool.and_eq_true]
        constructor
        · have := hS.blk
          unfold blkS at this ⊢
          rw [List.all_eq_true] at this ⊢
          intro q hq
          have := this q hq
          rw [List.any_eq_true] at this ⊢
          obtain ⟨i, hi, e⟩ := this
          exact ⟨i, t3 i hi, e⟩
        · rw [List.any_eq_true]
          exact ⟨z, t4, by simp⟩
      have := hW.least T t1 hb
      omega
/-- Which numbers below n are in a list. -/
def isIn (A : List Int) (n : Nat) : List Bool := (List.range n).map fun (x : Nat) => A.contains (x : Int)
theorem isIn_len (A : List Int) (n : Nat) : (isIn A n).length = n := by simp [isIn]
theorem isIn_get (A : List Int) {n k : Nat} (h : k < n) : (isIn A n).getD k false = A.contains (k : Int) := by
  simp [isIn, List.getD_eq_getElem?_getD, h]
theorem isIn_set (A : List Int) {n : Nat} {x : Int} (h0 : 0 ≤ x) : (isIn A n).set x.toNat true = isIn (A ++ [x]) n := by
  apply List.ext_getElem
  · simp [isIn]
  · intro i h1 h2
    rw [List.getElem_set]
    have e1 : (isIn (A ++ [x]) n)[i]'h2 = (A ++ [x]).contains (i : Int) := by simp [isIn]
    rw [e1]
    by_cases c : x.toNat = i
    · rw [if_pos c]
      symm
      rw [List.contains_iff_mem]
      have : (i : Int) = x := by omega
      simp [this]
    · rw [if_neg c]
      have e2 : (isIn A n)[i]'(by rw [isIn_len]; simpa [isIn] using h2) = A.contains (i : Int) := by simp [isIn]
      rw [e2, Bool.eq_iff_iff, List.contains_iff_mem, List.contains_iff_mem]
      have : (i : Int) ≠ x := by omega
      simp [this]
theorem isIn_out (A : List Int) {n : Nat} {x : Int} (h : x < 0 ∨ n ≤ x) : isIn (A ++ [x]) n = isIn A n := by
  unfold isIn
  apply List.map_congr_left
  intro i hi
  have := List.mem_range.1 hi
  rw [Bool.eq_iff_iff, List.contains_iff_mem, List.contains_iff_mem]
  have : (i : Int) ≠ x := by omega
  simp [this]
theorem isIn_nil (n : Nat) : isIn [] n = List.replicate n false := by
  unfold isIn
  apply List.ext_getElem
  · simp
  · intro i h1 h2; simp
/-- The numbers below n that are in a list. -/
def inL (A : List Int) (n : Nat) : List Int := ((List.range n).filter fun (x : Nat) => A.contains (x : Int)).map fun (i : Nat) => (i : Int)
theorem inL_yes {A : List Int} {k : Nat} (h : A.contains (k : Int) = true) : inL A (k + 1) = inL A k ++ [(k : Int)] := by
  unfold inL
  rw [List.range_succ, List.filter_append, List.map_append, List.filter_cons_of_pos (p := fun (x : Nat) => A.contains (x : Int)) h]; rfl
theorem inL_no {A : List Int} {k : Nat} (h : A.contains (k : Int) = false) : inL A (k + 1) = inL A k := by
  unfold inL
  rw [List.range_succ, List.filter_append, List.map_append, List.filter_cons_of_neg (by simpa using h)]; simp
theorem inL_mem {A : List Int} {n : Nat} {x : Int} : x ∈ inL A n ↔ 0 ≤ x ∧ x < n ∧ x ∈ A := by
  unfold inL
  rw [List.mem_map]
  constructor
  · rintro ⟨i, hi, rfl⟩
    obtain ⟨h1, h2⟩ := List.mem_filter.1 hi
    have := List.mem_range.1 h1
    exact ⟨by omega, by omega, by simpa using h2⟩
  · rintro ⟨h1, h2, h3⟩
    refine ⟨x.toNat, List.mem_filter.2 ⟨List.mem_range.2 (by omega), ?_⟩, by omega⟩
    rw [Int.toNat_of_nonneg h1]; simpa using h3
theorem inL_len (A : List Int) (n : Nat) : (inL A n).length ≤ n := by
  unfold inL
  rw [List.length_map]
  exact Nat.le_trans (List.length_filter_le _ _) (by simp)
theorem inL_inc (A : List Int) (N : Nat) : Inc (N : Int) 0 (inL A N) := by
  have key : ∀ (d f : Nat), f + d = N → Inc (N : Int) (f : Int) (((List.range' f d).filter fun (i : Nat) => A.contains (i : Int)).map fun (i : Nat) => (i : Int)) := by
    intro d
    induction d with
    | zero => intro f _; trivial
    | succ d ih =>
      intro f hf
      rw [List.range'_succ]
      have := ih (f + 1) (by omega)
      by_cases c : A.contains (f : Int) = true
      · rw [List.filter_cons_of_pos (p := fun (x : Nat) => A.contains (x : Int)) c, List.map_cons]
        exact ⟨Int.le_refl _, by omega, this⟩
      · rw [List.filter_cons_of_neg (p := fun (x : Nat) => A.contains (x : Int)) c]
        exact this.mono (by omega)
  have := key N 0 (by omega)
  rw [← List.range_eq_range'] at this
  exact this
theorem same_with {n : Nat} {o : List (List Int)} {x more : List Int} (hx : x ∈ o) (hi : Inc (n : Int) 0 x) (s : List Int) : blkS (o ++ [inL (x ++ more) n]) s = blkS o s := by
  rw [blkS_snoc]
  cases h : blkS o s with
  | false => rfl
  | true =>
    rw [Bool.true_and]
    unfold blkS at h
    rw [List.all_eq_true] at h
    have := h x hx
    rw [List.any_eq_true] at this ⊢
    obtain ⟨i, hi', e⟩ := this
    have hix : i ∈ x := by simpa using e
    have hb := hi.mem i hix
    refine ⟨i, hi', ?_⟩
    rw [List.contains_iff_mem, inL_mem]
    exact ⟨hb.1, hb.2, by simp [hix]⟩
end Go.Proofs.Ytecmckoglgdicaa
