/- The plain law of labels: those of a search are sound and tight, and no others have other times. -/
import Derived.Test.YtcjgofcfinbpeaaL13
import Derived.Test.YtcjgofcfinbpeaaPlainRoad3
namespace Go.Proofs.Ytcjgofcfinbpeaa
set_option linter.unusedVariables false
set_option linter.unusedSimpArgs false
open T
theorem getD_arc {A : List DArc} {i : Nat} (hi : i < A.length) : A.getD i (0, 0, [], []) ∈ A := getD_mem hi
/-- What a search finds is accepted. -/
theorem found_check {A : List DArc} {n src : Nat} {start : Int} {hi : Bool} {R : List DLab} (h : rightR n A = true) (hs : src < n) (ht : timeB start = true) (F : Found false (moveE A hi) A.length n src start R) : checkF n A src start hi R = 0 := by
  have tm := fun v hv h0 => found_tm F (v := v) hv h0
  obtain ⟨hL, val, hsrc, ⟨r, r1, r2⟩, closed⟩ := F
  rw [checkF_ok ⟨⟨⟨h, by omega⟩, by omega⟩, ht⟩, if_neg (by rw [hL]; exact fun q => q rfl), if_pos]
  have n0 : ∀ v < n, ¬ (R.getD v (0, 0)).1 = -1 → 0 ≤ (R.getD v (0, 0)).1 := fun v hv h1 => by
    rcases val v hv with q | q
    · rw [q] at h1; exact absurd rfl h1
    · exact (timeB_iff.1 q).1
  rw [Bool.and_eq_true]
  constructor
  · unfold soundF
    rw [all_range, hL]
    intro i hi'
    rw [Bool.and_eq_true]
    constructor
    · by_cases c : (i : Int) = src
      · have c' : i = src := by omega
        subst c'
        rw [nodeOk_src c, hsrc]; exact ⟨rfl, rfl⟩
      · by_cases d : (R.getD i (0, 0)).1 = -1
        · rw [nodeOk_none c d]
          rcases val i hi' with q | q
          · rw [q]
          · rw [d] at q; cases q
        · have h0 := n0 i hi' d
          rw [nodeOk_some c d]
          rcases r2 i hi' h0 with q | ⟨k, hk, j1, j2, j3, j4, _⟩
          · exact absurd (by omega) c
          · have hin := intoE h hi k hk
            rw [j1]
            have hin1 := hin.1
            exact ⟨tm i hi' h0, ⟨by omega, by omega⟩, j2, tm (moveE A hi k).1.toNat (by omega) j3, j4.symm⟩
    · unfold homeOk
      by_cases d : (R.getD i (0, 0)).1 = -1
      · rw [decide_eq_true d]; rfl
      · rw [Bool.or_eq_true]; right
        have main : ∀ k v, v < n → 0 ≤ (R.getD v (0, 0)).1 → r v ≤ k → ∀ m, k < m → backN A R src m v = true := by
          intro k
          induction k with
          | zero =>
            intro v hv h0 hk m hm
            rcases r2 v hv h0 with rfl | ⟨i, _, _, _, _, _, j⟩
            · obtain ⟨m, rfl⟩ : ∃ q, m = q + 1 := ⟨m - 1, by omega⟩
              unfold backN; exact if_pos rfl
            · omega
          | succ k ih =>
            intro v hv h0 hk m hm
            obtain ⟨m, rfl⟩ : ∃ q, m = q + 1 := ⟨m - 1, by omega⟩
            rcases r2 v hv h0 with rfl | ⟨i, hil, j1, j2, j3, j4, j5⟩
            · unfold backN; exact if_pos rfl
            · have hin := intoE h hi i hil
              by_cases c : (v : Int) = src
              · unfold backN; exact if_pos c
              · have e1 : (R.getD (v : Int).toNat (0, 0)).2 = (i : Int) := j1
                rw [backN_step c (by rw [byOk_iff, e1]; exact ⟨by omega, by omega⟩)]
                have e2 : nextN A R v = ((moveE A hi i).1.toNat : Int) := by
                  unfold nextN
                  rw [e1]
                  exact (Int.toNat_of_nonneg hin.1.1).symm
                rw [e2]
                exact ih _ (by omega) j3 (by omega) m (by omega)
        exact main (r i) i hi' (n0 i hi' d) (Nat.le_refl _) _ (by have := r1 i hi' (n0 i hi' d); omega)
  · rw [List.all_eq_true]
    intro a ha
    obtain ⟨i, hi', rfl⟩ := List.getElem_of_mem ha
    have ea : A.getD i (0, 0, [], []) = A[i] := by rw [List.getD_eq_getElem?_getD, List.getElem?_eq_getElem hi', Option.getD_some]
    have hin := (right_at h hi').2
    rw [tightOk_iff, ← ea]
    by_cases d : (R.getD (A.getD i (0, 0, [], [])).1.toNat (0, 0)).1 = -1
    · exact .inl d
    · right
      rintro ⟨h1, h2⟩
      have c := closed i hi' (n0 _ (by show (A.getD i (0, 0, [], [])).1.toNat < n; omega) d) h1
      have c1 : 0 ≤ (R.getD (A.getD i (0, 0, [], [])).2.1.toNat (0, 0)).1 := c.1
      have c2 : (R.getD (A.getD i (0, 0, [], [])).2.1.toNat (0, 0)).1 ≤ (toArc (A.getD i (0, 0, [], []))).passF hi (R.getD (A.getD i (0, 0, [], [])).1.toNat (0, 0)).1 := c.2
      omega
/-- Labels that are accepted are what a search finds, but for the arcs. -/
theorem check_found {A : List DArc} {n src : Nat} {start : Int} {hi : Bool} {L : List DLab} (h : rightR n A = true) (hs : src < n) (ht : timeB start = true) (hc : checkF n A src start hi L = 0) : Found false (moveE A hi) A.length n src start L := by
  rw [checkF_ok ⟨⟨⟨h, by omega⟩, by omega⟩, ht⟩] at hc
  by_cases hl : (L.length : Int) ≠ n
  · rw [if_pos hl] at hc; cases hc
  rw [if_neg hl] at hc
  have hL : L.length = n := by omega
  by_cases hk : (soundF A src start hi L && A.all (tightOk hi L)) = true
  case neg => rw [if_neg hk] at hc; cases hc
  rw [Bool.and_eq_true] at hk
  obtain ⟨k1, k2⟩ := hk
  unfold soundF at k1
  rw [all_range, hL] at k1
  rw [List.all_eq_true] at k2
  have node : ∀ i < n, nodeOk A src start hi L i = true := fun i hi' => by have := k1 i hi'; rw [Bool.and_eq_true] at this; exact this.1
  have home : ∀ i < n, homeOk A src L i = true := fun i hi' => by have := k1 i hi'; rw [Bool.and_eq_true] at this; exact this.2
  have hsrc : (L.getD src (0, 0)) = (start, -1) := by
    have := (nodeOk_src rfl).1 (node src hs)
    exact Prod.ext this.1 this.2
  have val : ∀ v < n, L.getD v (0, 0) = (-1, -1) ∨ timeB (L.getD v (0, 0)).1 = true := by
    intro v hv
    by_cases c : (v : Int) = src
    · have c' : v = src := by omega
      subst c'
      rw [hsrc]; exact .inr ht
    · by_cases d : (L.getD v (0, 0)).1 = -1
      · exact .inl (Prod.ext d ((nodeOk_none c d).1 (node v hv)))
      · exact .inr ((nodeOk_some c d).1 (node v hv)).1
  have n1 : ∀ v < n, 0 ≤ (L.getD v (0, 0)).1 → ¬ (L.getD v (0, 0)).1 = -1 := fun v _ h0 => by omega
  have hAin : ∀ a ∈ A, 0 ≤ a.1 ∧ a.1 < n := fun a ha => ((rightR_all h).2.2 a ha).2.1
  -- the rank: how many steps back
  have back : ∀ v < n, 0 ≤ (L.getD v (0, 0)).1 → ∃ t, t < n ∧ hitN A L src t v := by
    intro v hv h0
    have q := home v hv
    unfold homeOk at q
    rw [Bool.or_eq_true] at q
    rcases q with q | q
    · exact absurd (of_decide_eq_true q) (n1 v hv h0)
    · exact backN_iff.1 (backN_short hAin ⟨by omega, by omega⟩ q)
  have uniq : ∀ {v : Int} {s t : Nat}, hitN A L src s v → hitN A L src t v → s = t := by
    intro v s t hs ht
    rcases Nat.lt_trichotomy s t with c | c | c
    · exact absurd hs.1 (ht.2 s c).1
    · exact c
    · exact absurd ht.1 (hs.2 t c).1
  have hr : ∃ r : Nat → Nat, ∀ v < n, 0 ≤ (L.getD v (0, 0)).1 → r v < n ∧ hitN A L src (r v) v := by
    refine ⟨fun v => if hv : v < n ∧ 0 ≤ (L.getD v (0, 0)).1 then (back v hv.1 hv.2).choose else 0, fun v hv h0 => ?_⟩
    dsimp only
    rw [dif_pos ⟨hv, h0⟩]
    exact (back v hv h0).choose_spec
  obtain ⟨r, hr⟩ := hr
  refine ⟨hL, val, hsrc, ⟨r, fun v hv h0 => (hr v hv h0).1, fun v hv h0 => ?_⟩, fun i hi' h0 h1 => ?_⟩
  · by_cases c : (v : Int) = src
    · exact .inl (by omega)
    · right
      obtain ⟨q1, ⟨q2, q3⟩, q4, q5, q6⟩ := (nodeOk_some c (n1 v hv h0)).1 (node v hv)
      obtain ⟨i, ei⟩ : ∃ i : Nat, (L.getD v (0, 0)).2 = (i : Int) := ⟨(L.getD v (0, 0)).2.toNat, by omega⟩
      rw [ei] at q2 q3 q4 q5 q6
      rw [show ((i : Int)).toNat = i from rfl] at q4 q5 q6
      have hil : i < A.length := by omega
      have hin := intoE h hi i hil
      have h5 := (timeB_iff.1 q5).1
      refine ⟨i, hil, ei, q4, h5, q6.symm, ?_⟩
      have g1 := hr v hv h0
      have g2 := hr (moveE A hi i).1.toNat (by omega) h5
      have e2 : nextN A L v = ((moveE A hi i).1.toNat : Int) := by
        unfold nextN
        rw [show (L.getD (v : Int).toNat (0, 0)).2 = (i : Int) from ei]
        exact (Int.toNat_of_nonneg hin.1.1).symm
      cases hz : r v with
      | zero =>
        rw [hz] at g1
        exact absurd g1.2.1 c
      | succ t =>
        rw [hz] at g1
        have g3 : hitN A L src t (nextN A L v) := ⟨g1.2.1, fun s hs => g1.2.2 (s + 1) (by omega)⟩
        rw [e2] at g3
        have := uniq g2.2 g3
        omega
  · have hin := intoE h hi i hi'
    have kt := k2 _ (getD_arc hi')
    rw [tightOk_iff] at kt
    have f1 : (moveE A hi i).1.toNat = (A.getD i (0, 0, [], [])).1.toNat := rfl
    have f2 : (moveE A hi i).2.1.toNat = (A.getD i (0, 0, [], [])).2.1.toNat := rfl
    rw [f1] at h0 h1 ⊢
    rw [f2]
    rcases kt with kt | kt
    · exact absurd kt (n1 _ (by rw [← f1]; omega) h0)
    · have v2 := val (A.getD i (0, 0, [], [])).2.1.toNat (by rw [← f2]; omega)
      have hne : ¬ ((L.getD (A.getD i (0, 0, [], [])).2.1.toNat (0, 0)).1 = -1 ∨ (toArc (A.getD i (0, 0, [], []))).passF hi (L.getD (A.getD i (0, 0, [], [])).1.toNat (0, 0)).1 < (L.getD (A.getD i (0, 0, [], [])).2.1.toNat (0, 0)).1) := fun q => kt ⟨h1, q⟩
      rw [not_or] at hne
      refine ⟨?_, ?_⟩
      · rcases v2 with q | q
        · rw [q] at hne; exact absurd rfl hne.1
        · exact (timeB_iff.1 q).1
      · show (L.getD (A.getD i (0, 0, [], [])).2.1.toNat (0, 0)).1 ≤ (toArc (A.getD i (0, 0, [], []))).passF hi (L.getD (A.getD i (0, 0, [], [])).1.toNat (0, 0)).1
        omega
/-- Two searches find the same times. -/
theorem found_eq {A : List DArc} {n src : Nat} {start : Int} {hi : Bool} {R R' : List DLab} (h : rightR n A = true) (h0 : 0 ≤ start) (F : Found false (moveE A hi) A.length n src start R) (F' : Found false (moveE A hi) A.length n src start R') {v : Nat} (hv : v < n) : (R.getD v (0, 0)).1 = (R'.getD v (0, 0)).1 := by
  have le1 := found_le (intoE h hi) F F' h0 (Int.le_refl _) (fun i hi' => ⟨hi', rfl, rfl, fun x y hx hy hxy hp => pass_step_le (right_at h hi').1 (fun _ => Int.le_refl _) hx hy hxy hp⟩) v hv
  have le2 := found_le (intoE h hi) F' F h0 (Int.le_refl _) (fun i hi' => ⟨hi', rfl, rfl, fun x y hx hy hxy hp => pass_step_le (right_at h hi').1 (fun _ => Int.le_refl _) hx hy hxy hp⟩) v hv
  have v1 : (R.getD v (0, 0)).1 = -1 ∨ 0 ≤ (R.getD v (0, 0)).1 := by
    rcases F.val v hv with q | q
    · left; rw [q]
    · exact .inr (timeB_iff.1 q).1
  have v2 : (R'.getD v (0, 0)).1 = -1 ∨ 0 ≤ (R'.getD v (0, 0)).1 := by
    rcases F'.val v hv with q | q
    · left; rw [q]
    · exact .inr (timeB_iff.1 q).1
  rcases v1 with v1 | v1
  · rcases v2 with v2 | v2
    · omega
    · have := le2 v2; omega
  · have := le1 v1
    have := le2 (by omega)
    omega
end Go.Proofs.Ytcjgofcfinbpeaa
