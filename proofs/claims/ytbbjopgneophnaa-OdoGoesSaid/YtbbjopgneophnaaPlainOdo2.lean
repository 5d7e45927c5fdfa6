/- The plain law of drives: what is possible stays so. -/
import Derived.Test.YtbbjopgneophnaaPlainOdo
namespace Go.Proofs.Ytbbjopgneophnaa
set_option linter.unusedVariables false
set_option linter.unusedSimpArgs false
open T
/-- A search that has reached another one's beginning in time is nowhere later. -/
theorem found_via {E E' : Nat → Move} {m m' n at_ at' : Nat} {t t' : Int} {R R' : List DLab} (hE : Into E m n) (F : Found false E m n at_ t R) (F' : Found false E' m' n at' t' R') (hs : 0 ≤ (R'.getD at_ (0, 0)).1 ∧ (R'.getD at_ (0, 0)).1 ≤ t)
    (hm : ∀ i < m, i < m' ∧ (E' i).1 = (E i).1 ∧ (E' i).2.1 = (E i).2.1 ∧ ∀ x y, timeB x = true → timeB y = true → y ≤ x → timeB ((E i).2.2 x) = true → timeB ((E' i).2.2 y) = true ∧ (E' i).2.2 y ≤ (E i).2.2 x) :
    ∀ v < n, 0 ≤ (R.getD v (0, 0)).1 → 0 ≤ (R'.getD v (0, 0)).1 ∧ (R'.getD v (0, 0)).1 ≤ (R.getD v (0, 0)).1 := by
  have tm := fun v hv h0 => found_tm F (v := v) hv h0
  have tm' := fun v hv h0 => found_tm F' (v := v) hv h0
  obtain ⟨hL, val, hsrc, ⟨r, _, r2⟩, _⟩ := F
  obtain ⟨hL', val', hsrc', _, closed'⟩ := F'
  have main : ∀ k v, v < n → 0 ≤ (R.getD v (0, 0)).1 → r v ≤ k → 0 ≤ (R'.getD v (0, 0)).1 ∧ (R'.getD v (0, 0)).1 ≤ (R.getD v (0, 0)).1 := by
    intro k
    induction k with
    | zero =>
      intro v hv h0 hk
      rcases r2 v hv h0 with rfl | ⟨i, _, _, _, _, _, j⟩
      · rw [hsrc]; exact hs
      · omega
    | succ k ih =>
      intro v hv h0 hk
      rcases r2 v hv h0 with rfl | ⟨i, hi, j1, j2, j3, j4, j5⟩
      · rw [hsrc]; exact hs
      · have hin := hE i hi
        obtain ⟨k1, k2, k3, k4⟩ := hm i hi
        obtain ⟨g1, g2⟩ := ih _ (by omega) j3 (by omega)
        have hv' := tm v hv h0
        rw [j4] at hv'
        obtain ⟨p1, p2⟩ := k4 _ _ (tm _ (by omega) j3) (tm' _ (by omega) g1) g2 hv'
        obtain ⟨c1, c2⟩ := closed' i k1 (by rw [k2]; exact g1) (by rw [k2]; exact p1)
        rw [k2, k3, j2] at c2
        rw [k3, j2] at c1
        rw [show ((v : Int)).toNat = v from rfl] at c1 c2
        have c3 : (R'.getD v (0, 0)).1 ≤ (E' i).2.2 (R'.getD (E i).1.toNat (0, 0)).1 := c2
        rw [j4]
        exact ⟨c1, by omega⟩
  exact fun v hv h0 => main (r v) v hv h0 (Nat.le_refl _)
/-- Nothing is reached before the beginning. -/
theorem found_ge {A : List DArc} {n src : Nat} {start : Int} {R : List DLab} (h : rightR n A = true) (F : Found false (moveE A false) A.length n src start R) : ∀ v < n, 0 ≤ (R.getD v (0, 0)).1 → start ≤ (R.getD v (0, 0)).1 := by
  have tm := fun v hv h0 => found_tm F (v := v) hv h0
  obtain ⟨hL, val, hsrc, ⟨r, _, r2⟩, _⟩ := F
  have main : ∀ k v, v < n → 0 ≤ (R.getD v (0, 0)).1 → r v ≤ k → start ≤ (R.getD v (0, 0)).1 := by
    intro k
    induction k with
    | zero =>
      intro v hv h0 hk
      rcases r2 v hv h0 with rfl | ⟨i, _, _, _, _, _, j⟩
      · rw [hsrc]; exact Int.le_refl _
      · omega
    | succ k ih =>
      intro v hv h0 hk
      rcases r2 v hv h0 with rfl | ⟨i, hi, j1, j2, j3, j4, j5⟩
      · rw [hsrc]; exact Int.le_refl _
      · have hin := intoE h false i hi
        have g := ih _ (by omega) j3 (by omega)
        have h1 := tm v hv h0
        have h2 := tm (moveE A false i).1.toNat (by omega) j3
        rw [j4] at h1
        have h3 := goesE h false i hi _ h2 h1
        rw [j4]
        have h4 : (R.getD (moveE A false i).1.toNat (0, 0)).1 ≤ (moveE A false i).2.2 (R.getD (moveE A false i).1.toNat (0, 0)).1 := h3
        omega
  exact fun v hv h0 => main (r v) v hv h0 (Nat.le_refl _)
/-- What is reached is reached from a later beginning, too, as long as there is time. -/
theorem found_late {A : List DArc} {n src : Nat} {start start' : Int} {R R' : List DLab} (h : rightR n A = true) (F : Found false (moveE A false) A.length n src start R) (F' : Found false (moveE A false) A.length n src start' R') (h0' : 0 ≤ start') (hmax : start' + 600 * n ≤ 1048576) :
    ∀ v < n, 0 ≤ (R.getD v (0, 0)).1 → 0 ≤ (R'.getD v (0, 0)).1 := by
  have tm' := fun v hv h0 => found_tm F' (v := v) hv h0
  obtain ⟨hL, val, hsrc, ⟨r, r1, r2⟩, _⟩ := F
  obtain ⟨hL', val', hsrc', _, closed'⟩ := F'
  have main : ∀ k v, v < n → 0 ≤ (R.getD v (0, 0)).1 → r v ≤ k → 0 ≤ (R'.getD v (0, 0)).1 ∧ (R'.getD v (0, 0)).1 ≤ start' + 600 * (r v : Int) := by
    intro k
    induction k with
    | zero =>
      intro v hv h0 hk
      rcases r2 v hv h0 with rfl | ⟨i, _, _, _, _, _, j⟩
      · rw [hsrc']; exact ⟨h0', by show start' ≤ _; omega⟩
      · omega
    | succ k ih =>
      intro v hv h0 hk
      rcases r2 v hv h0 with rfl | ⟨i, hi, j1, j2, j3, j4, j5⟩
      · rw [hsrc']; exact ⟨h0', by show start' ≤ _; omega⟩
      · have hin := intoE h false i hi
        have hr := (right_at h hi).1
        obtain ⟨g1, g2⟩ := ih _ (by omega) j3 (by omega)
        have hrv := r1 v hv h0
        have hu := timeB_iff.1 (tm' (moveE A false i).1.toNat (by omega) g1)
        have e : (moveE A false i).2.2 (R'.getD (moveE A false i).1.toNat (0, 0)).1 = (toArc (A.getD i (0, 0, [], []))).pass false (R'.getD (moveE A false i).1.toNat (0, 0)).1 := Arc.passF_yes _ hr hu
        have b := Arc.pass_bd hr false hu.2
        have b2 := (Arc.tk_bd hr false (R'.getD (moveE A false i).1.toNat (0, 0)).1).2
        have c := closed' i hi g1 (by rw [e]; exact timeB_iff.2 ⟨by omega, by omega⟩)
        rw [e, j2, show ((v : Int)).toNat = v from rfl] at c
        have c2 : (R'.getD v (0, 0)).1 ≤ (toArc (A.getD i (0, 0, [], []))).pass false (R'.getD (moveE A false i).1.toNat (0, 0)).1 := c.2
        exact ⟨c.1, by omega⟩
  exact fun v hv h0 => (main (r v) v hv h0 (Nat.le_refl _)).1
theorem early_via {A : List DArc} {n s1 s2 : Nat} {t1 t2 : Int} {R1 R2 : List DLab} (h : rightR n A = true) (F1 : Found false (moveE A false) A.length n s1 t1 R1) (F2 : Found false (moveE A false) A.length n s2 t2 R2) (hs : 0 ≤ (R1.getD s2 (0, 0)).1 ∧ (R1.getD s2 (0, 0)).1 ≤ t2) :
    ∀ v < n, 0 ≤ (R2.getD v (0, 0)).1 → 0 ≤ (R1.getD v (0, 0)).1 ∧ (R1.getD v (0, 0)).1 ≤ (R2.getD v (0, 0)).1 :=
  found_via (intoE h false) F2 F1 hs fun i hi => ⟨hi, rfl, rfl, fun x y hx hy hxy hp => pass_step_le (right_at h hi).1 (fun _ => Int.le_refl _) hx hy hxy hp⟩
/-- The earliest time, of a right drive. -/
theorem earliestF_ok {n : Nat} {A : List DArc} {d : DDrv} {to : Nat} (h : rightR n A = true) (hd : fineB n d = true) (hto : to < n) : ∃ R, Found false (moveE A false) A.length n d.2.1.toNat d.1 R ∧
    earliestF n A d to = if (R.getD to (0, 0)).1 < 0 then (0, 4, ()) else ((R.getD to (0, 0)).1, 0, ()) := by
  have hf := fineB_iff.1 hd
  obtain ⟨R, eR, F⟩ := earlyF_ok (hi := false) (src := d.2.1.toNat) (start := d.1) h (by omega) (timeB_iff.2 ⟨by omega, by omega⟩)
  refine ⟨R, F, ?_⟩
  have hL := F.hL
  have e : ((d.2.1.toNat : Nat) : Int) = d.2.1 := by omega
  rw [e] at eR
  unfold earliestF
  rw [eR, if_neg]
  · rfl
  · rintro (q | q | q)
    · exact q rfl
    · omega
    · have q' : (R.length : Int) ≤ (to : Int) := q
      omega
theorem possGo_iff {n : Int} {A : List DArc} {l : List DDrv} : ∀ {k i : Nat}, 1 ≤ i → ((possGo n A l k i).2.1 = 0 ↔ ∀ j, i ≤ j → j < i + k → ¬ badAt n A l j)
  | 0, i, _ => ⟨fun _ j h1 h2 => by omega, fun _ => rfl⟩
  | k + 1, i, hi => by
    unfold possGo
    by_cases c : badAt n A l i
    · rw [if_pos c]
      exact ⟨fun q => absurd (show (19 : Int) = 0 from q) (by decide), fun q => absurd c (q i (by omega) (by omega))⟩
    · rw [if_neg c, possGo_iff (by omega)]
      constructor
      · intro q j h1 h2
        by_cases d : j = i
        · subst d; exact c
        · exact q j (by omega) (by omega)
      · exact fun q j h1 h2 => q j (by omega) (by omega)
theorem possibleF_iff {n : Int} {A : List DArc} {l : List DDrv} : (possibleF n A l).2.1 = 0 ↔ rightR n A = true ∧ rightDF n l = true ∧ ∀ j, 1 ≤ j → j < l.length → ¬ badAt n A l j := by
  unfold possibleF
  by_cases c : rightR n A = true ∧ rightDF n l = true
  · rw [if_pos c, possGo_iff (Nat.le_refl 1)]
    exact ⟨fun q => ⟨c.1, c.2, fun j h1 h2 => q j h1 (by omega)⟩, fun q j h1 h2 => q.2.2 j h1 (by omega)⟩
  · rw [if_neg c]
    exact ⟨fun q => absurd q (by decide), fun q => absurd ⟨q.1, q.2.1⟩ c⟩
theorem rightDF_at {n : Int} {l : List DDrv} (h : rightDF n l = true) {i : Nat} (hi : i < l.length) : fineB n (l.getD i (0, 0, 0)) = true ∧ (i = 0 ∨ stepB (l.getD (i - 1) (0, 0, 0)) (l.getD i (0, 0, 0)) = true) := by
  unfold rightDF at h
  rw [Bool.and_eq_true] at h
  exact okDr_iff.1 h.2 i hi
/-- A drive is not impossible, seen from one before. -/
def goesTo (n : Int) (A : List DArc) (a b : DDrv) : Prop := (earliestF n A a b.2.1).2.1 = 0 ∧ (earliestF n A a b.2.1).1 ≤ b.1
theorem badAt_iff {n : Int} {A : List DArc} {l : List DDrv} {i : Nat} : ¬ badAt n A l i ↔ goesTo n A (l.getD (i - 1) (0, 0, 0)) (l.getD i (0, 0, 0)) := by
  unfold badAt goesTo
  rw [not_or, Decidable.not_not, Int.not_lt]
theorem goesTo_iff {n : Nat} {A : List DArc} {a b : DDrv} (h : rightR n A = true) (ha : fineB n a = true) (hb : fineB n b = true) : ∃ R, Found false (moveE A false) A.length n a.2.1.toNat a.1 R ∧ (goesTo n A a b ↔ 0 ≤ (R.getD b.2.1.toNat (0, 0)).1 ∧ (R.getD b.2.1.toNat (0, 0)).1 ≤ b.1) := by
  have hfb := fineB_iff.1 hb
  obtain ⟨R, F, e⟩ := earliestF_ok (to := b.2.1.toNat) h ha (by omega)
  refine ⟨R, F, ?_⟩
  rw [show ((b.2.1.toNat : Nat) : Int) = b.2.1 by omega] at e
  unfold goesTo
  rw [e]
  by_cases c : (R.getD b.2.1.toNat (0, 0)).1 < 0
  · rw [if_pos c]
    exact ⟨fun q => absurd q.1 (by decide), fun q => by omega⟩
  · rw [if_neg c]
    exact ⟨fun q => ⟨by omega, q.2⟩, fun q => ⟨rfl, q.2⟩⟩
theorem goesTo_trans {n : Nat} {A : List DArc} {a b c : DDrv} (h : rightR n A = true) (ha : fineB n a = true) (hb : fineB n b = true) (hc : fineB n c = true) (h1 : goesTo n A a b) (h2 : goesTo n A b c) : goesTo n A a c := by
  have hfc := fineB_iff.1 hc
  have hfb := fineB_iff.1 hb
  obtain ⟨R1, F1, e1⟩ := goesTo_iff h ha hb
  obtain ⟨R2, F2, e2⟩ := goesTo_iff h hb hc
  obtain ⟨R3, F3, e3⟩ := goesTo_iff h ha hc
  have k1 := e1.1 h1
  have k2 := e2.1 h2
  have hv := early_via h F1 F2 k1 c.2.1.toNat (by omega) k2.1
  have fa := fineB_iff.1 ha
  have he := early_via h F3 F1 (by rw [F3.src]; exact ⟨fa.1, Int.le_refl _⟩) c.2.1.toNat (by omega) hv.1
  exact e3.2 ⟨he.1, by omega⟩
theorem stepB_trans {a b c : DDrv} (h1 : stepB a b = true) (h2 : stepB b c = true) : stepB a c = true := by
  rw [stepB_iff] at *
  omega
/-- The drives without one. -/
def without (l : List DDrv) (k : Nat) : List DDrv := l.take k ++ l.drop (k + 1)
theorem without_length {l : List DDrv} {k : Nat} (hk : k < l.length) : (without l k).length = l.length - 1 := by
  unfold without; rw [List.length_append, List.length_take, List.length_drop]; omega
theorem without_get {l : List DDrv} {k i : Nat} (hk : k < l.length) : (without l k).getD i (0, 0, 0) = if i < k then l.getD i (0, 0, 0) else l.getD (i + 1) (0, 0, 0) := by
  unfold without
  rw [List.getD_eq_getElem?_getD]
  by_cases c : i < k
  · rw [if_pos c, List.getElem?_append_left (by rw [List.length_take]; omega), List.getElem?_take, if_pos c, ← List.getD_eq_getElem?_getD]
  · rw [if_neg c, List.getElem?_append_right (by rw [List.length_take]; omega), List.length_take, List.getElem?_drop, ← List.getD_eq_getElem?_getD, show k + 1 + (i - min k l.length) = i + 1 by omega]
theorem possible_less {n : Int} {A : List DArc} {l : List DDrv} {k : Nat} (hk : k < l.length) (h : (possibleF n A l).2.1 = 0) : (possibleF n A (without l k)).2.1 = 0 := by
  obtain ⟨h1, h2, h3⟩ := possibleF_iff.1 h
  obtain ⟨⟨n1, n2⟩, _, _⟩ := rightR_all h1
  obtain ⟨n, rfl⟩ : ∃ m : Nat, n = m := ⟨n.toNat, by omega⟩
  have hf : ∀ i, i < l.length → fineB n (l.getD i (0, 0, 0)) = true := fun i hi => (rightDF_at h2 hi).1
  have hs : ∀ i, 1 ≤ i → i < l.length → stepB (l.getD (i - 1) (0, 0, 0)) (l.getD i (0, 0, 0)) = true := fun i h0 hi => ((rightDF_at h2 hi).2).resolve_left (by omega)
  have hg : ∀ i, 1 ≤ i → i < l.length → goesTo n A (l.getD (i - 1) (0, 0, 0)) (l.getD i (0, 0, 0)) := fun i h0 hi => badAt_iff.1 (h3 i h0 hi)
  have hlen := without_length hk
  have hl2 : l.length ≤ 20000 := by
    unfold rightDF at h2; rw [Bool.and_eq_true] at h2; exact of_decide_eq_true h2.1
  have pair : ∀ i, 1 ≤ i → i < (without l k).length → stepB ((without l k).getD (i - 1) (0, 0, 0)) ((without l k).getD i (0, 0, 0)) = true ∧ goesTo n A ((without l k).getD (i - 1) (0, 0, 0)) ((without l k).getD i (0, 0, 0)) := by
    intro i h0 hi
    rw [without_get hk, without_get hk]
    by_cases c : i < k
    · rw [if_pos (by omega), if_pos c]
      exact ⟨hs i h0 (by omega), hg i h0 (by omega)⟩
    · rw [if_neg c]
      by_cases d : i = k
      · subst d
        rw [if_pos (by omega)]
        have s1 := hs i h0 (by omega)
        have s2 := hs (i + 1) (by omega) (by omega)
        have g1 := hg i h0 (by omega)
        have g2 := hg (i + 1) (by omega) (by omega)
        rw [Nat.add_sub_cancel] at s2 g2
        exact ⟨stepB_trans s1 s2, goesTo_trans h1 (hf _ (by omega)) (hf _ (by omega)) (hf _ (by omega)) g1 g2⟩
      · rw [if_neg (by omega), show i - 1 + 1 = i by omega]
        have s2 := hs (i + 1) (by omega) (by omega)
        have g2 := hg (i + 1) (by omega) (by omega)
        rw [Nat.add_sub_cancel] at s2 g2
        exact ⟨s2, g2⟩
  refine possibleF_iff.2 ⟨h1, ?_, fun j j1 j2 => badAt_iff.2 (pair j j1 j2).2⟩
  unfold rightDF
  rw [Bool.and_eq_true, decide_eq_true_iff, okDr_iff]
  refine ⟨by omega, fun i hi => ⟨?_, ?_⟩⟩
  · rw [without_get hk]
    split
    · exact hf i (by omega)
    · exact hf (i + 1) (by omega)
  · by_cases c : i = 0
    · exact .inl c
    · exact .inr (pair i (by omega) hi).1
end Go.Proofs.Ytbbjopgneophnaa
