/- The plain law of searches: the best ways, later starts, latest times. -/
import Derived.Test.YtbbjopgneophnaaPlainRoad
namespace Go.Proofs.Ytbbjopgneophnaa
set_option linter.unusedVariables false
set_option linter.unusedSimpArgs false
open T
abbrev DArcP := Int × Int × List Int × List Int
theorem right_at {n : Int} {A : List DArc} (h : rightR n A = true) {i : Nat} (hi : i < A.length) : (toArc (A.getD i (0, 0, [], []))).right ∧ (0 ≤ (A.getD i (0, 0, [], [])).1 ∧ (A.getD i (0, 0, [], [])).1 < n) ∧ 0 ≤ (A.getD i (0, 0, [], [])).2.1 ∧ (A.getD i (0, 0, [], [])).2.1 < n := by
  have := (rightR_all h).2.2 (A.getD i (0, 0, [], [])) (by rw [List.getD_eq_getElem?_getD, List.getElem?_eq_getElem hi]; exact List.getElem_mem hi)
  exact ⟨of_decide_eq_true this.1, this.2⟩
theorem goesE {n : Int} {A : List DArc} (h : rightR n A = true) (hi : Bool) : Goes false (moveE A hi) A.length := by
  intro i hl t ht hp
  have hr := (right_at h hl).1
  have h1 := timeB_iff.1 ht
  show t ≤ (toArc _).passF hi t
  rw [Arc.passF_yes _ hr h1]
  exact (Arc.pass_bd hr hi h1.2).1
theorem goesL {n : Int} {A : List DArc} (h : rightR n A = true) : Goes true (moveL A) A.length := by
  intro i hl t ht hp
  have hr := (right_at h hl).1
  have h1 := timeB_iff.1 ht
  have h2 := timeB_iff.1 hp
  have h3 : (moveL A i).2.2 t = (toArc (A.getD i (0, 0, [], []))).last true t := Arc.lastF_yes _ _ hr
  have := Arc.last_le hr true t
  show -t ≤ -((moveL A i).2.2 t)
  omega
theorem intoE {n : Nat} {A : List DArc} (h : rightR n A = true) (hi : Bool) : Into (moveE A hi) A.length n := fun _ hl => (right_at h hl).2
theorem intoL {n : Nat} {A : List DArc} (h : rightR n A = true) : Into (moveL A) A.length n := fun _ hl => ⟨(right_at h hl).2.2, (right_at h hl).2.1⟩
theorem earlyF_ok {n src : Nat} {A : List DArc} {start : Int} {hi : Bool} (h : rightR n A = true) (hs : src < n) (ht : timeB start = true) : ∃ R, earlyF n A src start hi = (R, 0, ()) ∧ Found false (moveE A hi) A.length n src start R := by
  refine ⟨_, ?_, searchF_found (intoE h hi) (goesE h hi) hs ht⟩
  unfold earlyF
  rw [h, ht, decide_eq_true (show (0 : Int) ≤ src by omega), decide_eq_true (show (src : Int) < n by omega), if_neg (by decide)]
  rfl
theorem lateF_ok {n src : Nat} {A : List DArc} {start : Int} (h : rightR n A = true) (hs : src < n) (ht : timeB start = true) : ∃ R, lateF n A src start = (R, 0, ()) ∧ Found true (moveL A) A.length n src start R := by
  refine ⟨_, ?_, searchF_found (intoL h) (goesL h) hs ht⟩
  unfold lateF
  rw [h, ht, decide_eq_true (show (0 : Int) ≤ src by omega), decide_eq_true (show (src : Int) < n by omega), if_neg (by decide)]
  rfl
/-- Where and when one is behind a way. -/
def goL (A : List DArc) (hi : Bool) (s : Int × Int) (W : List Int) : Int × Int := W.foldl (fun s i => ((A.getD i.toNat (0, 0, [], [])).2.1, (toArc (A.getD i.toNat (0, 0, [], []))).passF hi s.2)) s
/-- A way leads on from where one is. -/
def okL (A : List DArc) (hi : Bool) (s : Int × Int) (W : List Int) : Prop := ∀ k < W.length, (0 ≤ W.getD k 0 ∧ W.getD k 0 < A.length) ∧ (A.getD (W.getD k 0).toNat (0, 0, [], [])).1 = (goL A hi s (W.take k)).1
theorem goL_snoc {A : List DArc} {hi : Bool} {s : Int × Int} {W : List Int} {i : Int} : goL A hi s (W ++ [i]) = ((A.getD i.toNat (0, 0, [], [])).2.1, (toArc (A.getD i.toNat (0, 0, [], []))).passF hi (goL A hi s W).2) := by
  unfold goL; rw [List.foldl_append]; rfl
theorem goL_take {A : List DArc} {hi : Bool} {s : Int × Int} {W : List Int} {k : Nat} (h : k < W.length) : goL A hi s (W.take (k + 1)) = ((A.getD (W.getD k 0).toNat (0, 0, [], [])).2.1, (toArc (A.getD (W.getD k 0).toNat (0, 0, [], []))).passF hi (goL A hi s (W.take k)).2) := by
  rw [← goL_snoc, List.getD_eq_getElem?_getD, List.getElem?_eq_getElem h, Option.getD_some, List.take_append_getElem h]
theorem okL_snoc {A : List DArc} {hi : Bool} {s : Int × Int} {W : List Int} {i : Int} (h : okL A hi s W) (h0 : 0 ≤ i ∧ i < A.length) (h1 : (A.getD i.toNat (0, 0, [], [])).1 = (goL A hi s W).1) : okL A hi s (W ++ [i]) := by
  intro k hk
  rw [List.length_append, List.length_singleton] at hk
  by_cases c : k < W.length
  · have e : (W ++ [i]).getD k 0 = W.getD k 0 := by rw [List.getD_eq_getElem?_getD, List.getElem?_append_left c, ← List.getD_eq_getElem?_getD]
    rw [e, List.take_append_of_le_length (by omega)]
    exact h k c
  · obtain rfl : k = W.length := by omega
    have e : (W ++ [i]).getD W.length 0 = i := by rw [List.getD_eq_getElem?_getD, List.getElem?_append_right (Nat.le_refl _), Nat.sub_self]; rfl
    rw [e, List.take_left']
    · exact ⟨h0, h1⟩
    · rfl
theorem wayGo_none {L : List DLab} {A : List DArc} {to : Int} {out : List Int} (h : (L.getD to.toNat (0, 0)).2 = -1) (f : Nat) : wayGo L A f to out = out := by
  cases f <;> rw [wayGo, if_pos h]
theorem wayGo_length {L : List DLab} {A : List DArc} : ∀ (f : Nat) (to : Int) (out : List Int), (wayGo L A f to out).length ≤ f + out.length
  | 0, to, out => by
    unfold wayGo; split
    · omega
    · exact Nat.zero_le _
  | f + 1, to, out => by
    unfold wayGo
    split
    · omega
    · split
      · exact Nat.zero_le _
      · have := wayGo_length (L := L) (A := A) f (A.getD (L.getD to.toNat (0, 0)).2.toNat (0, 0, [], [])).1 ((L.getD to.toNat (0, 0)).2 :: out)
        rw [List.length_cons] at this
        omega
theorem wayF_length {L : List DLab} {A : List DArc} {to : Int} : (wayF L A to).length ≤ L.length := by
  unfold wayF
  split
  · exact Nat.zero_le _
  · exact wayGo_length _ _ _
/-- The way to a node that is reached. -/
theorem way_go {A : List DArc} {hi : Bool} {n src : Nat} {start : Int} {R : List DLab} (hE : Into (moveE A hi) A.length n) (hL : R.length = n) (hsrc : R.getD src (0, 0) = (start, -1)) {r : Nat → Nat}
    (h : ∀ v < n, 0 ≤ (R.getD v (0, 0)).1 → v = src ∨ ∃ i < A.length, (R.getD v (0, 0)).2 = (i : Int) ∧ (moveE A hi i).2.1 = v ∧ 0 ≤ (R.getD (moveE A hi i).1.toNat (0, 0)).1 ∧ (R.getD v (0, 0)).1 = (moveE A hi i).2.2 (R.getD (moveE A hi i).1.toNat (0, 0)).1 ∧ r (moveE A hi i).1.toNat < r v) :
    ∀ (f v : Nat), v < n → 0 ≤ (R.getD v (0, 0)).1 → r v ≤ f → ∀ out : List Int, ∃ W, wayGo R A f v out = W ++ out ∧ goL A hi (src, start) W = ((v : Int), (R.getD v (0, 0)).1) ∧ okL A hi (src, start) W
  | f, v, hv, h0, hr, out => by
    rcases h v hv h0 with rfl | ⟨i, hil, j1, j2, j3, j4, j5⟩
    · refine ⟨[], ?_, by rw [hsrc]; rfl, fun k hk => absurd hk (Nat.not_lt_zero k)⟩
      rw [wayGo_none (by show (R.getD v (0, 0)).2 = -1; rw [hsrc])]; rfl
    · cases f with
      | zero => omega
      | succ f =>
        have e := hE i hil
        obtain ⟨W, w1, w2, w3⟩ := way_go hE hL hsrc h f (moveE A hi i).1.toNat (by omega) j3 (by omega) ((i : Int) :: out)
        have eu : (((moveE A hi i).1.toNat : Nat) : Int) = (A.getD i (0, 0, [], [])).1 := Int.toNat_of_nonneg e.1.1
        have q1 : (R.getD (v : Int).toNat (0, 0)).2 = (i : Int) := j1
        refine ⟨W ++ [(i : Int)], ?_, ?_, okL_snoc w3 ⟨by omega, by omega⟩ ?_⟩
        · rw [wayGo, q1, if_neg (by omega), if_neg]
          · rw [show ((i : Int)).toNat = i from rfl, ← eu, w1, List.append_assoc]; rfl
          · rw [show ((i : Int)).toNat = i from rfl]
            have e1 : (moveE A hi i).1 = (A.getD i (0, 0, [], [])).1 := rfl
            rw [e1] at e
            rintro (c | c | c | c | c)
            · omega
            · omega
            · exact c j2
            · omega
            · omega
        · rw [goL_snoc, w2, show ((i : Int)).toNat = i from rfl]
          exact Prod.ext j2 j4.symm
        · rw [w2]; exact eu.symm
theorem way_found {A : List DArc} {hi : Bool} {n src : Nat} {start : Int} {R : List DLab} (hE : Into (moveE A hi) A.length n) (F : Found false (moveE A hi) A.length n src start R) {v : Nat} (hv : v < n) :
    ((R.getD v (0, 0)).1 = -1 → wayF R A v = [] ∧ (R.getD v (0, 0)).2 = -1) ∧ (¬ (R.getD v (0, 0)).1 = -1 → goL A hi (src, start) (wayF R A v) = ((v : Int), (R.getD v (0, 0)).1) ∧ okL A hi (src, start) (wayF R A v)) := by
  obtain ⟨hL, val, hsrc, ⟨r, r1, r2⟩, _⟩ := F
  refine ⟨fun h => ⟨if_pos (.inr (.inr h)), ?_⟩, fun h => ?_⟩
  · rcases val v hv with q | q
    · rw [q]
    · rw [h] at q; cases q
  · have h0 : 0 ≤ (R.getD v (0, 0)).1 := by
      rcases val v hv with q | q
      · exact absurd (by rw [q]) h
      · exact (timeB_iff.1 q).1
    obtain ⟨W, w1, w2, w3⟩ := way_go hE hL hsrc r2 R.length v hv h0 (by have := r1 v hv h0; omega) []
    have e : wayF R A v = W := by
      unfold wayF
      rw [if_neg, w1, List.append_nil]
      rintro (c | c | c)
      · omega
      · omega
      · exact h c
    rw [e]; exact ⟨w2, w3⟩
/-- A search that can do at least as much is nowhere later. -/
theorem found_le {E E' : Nat → Move} {m m' n at_ : Nat} {t t' : Int} {R R' : List DLab} (hE : Into E m n) (F : Found false E m n at_ t R) (F' : Found false E' m' n at_ t' R') (ht0 : 0 ≤ t') (htt : t' ≤ t)
    (hm : ∀ i < m, i < m' ∧ (E' i).1 = (E i).1 ∧ (E' i).2.1 = (E i).2.1 ∧ ∀ x y, timeB x = true → timeB y = true → y ≤ x → timeB ((E i).2.2 x) = true → timeB ((E' i).2.2 y) = true ∧ (E' i).2.2 y ≤ (E i).2.2 x) :
    ∀ v < n, 0 ≤ (R.getD v (0, 0)).1 → 0 ≤ (R'.getD v (0, 0)).1 ∧ (R'.getD v (0, 0)).1 ≤ (R.getD v (0, 0)).1 := by
  obtain ⟨hL, val, hsrc, ⟨r, _, r2⟩, _⟩ := F
  obtain ⟨hL', val', hsrc', _, closed'⟩ := F'
  have tm : ∀ v < n, 0 ≤ (R.getD v (0, 0)).1 → timeB (R.getD v (0, 0)).1 = true := fun v hv h0 => by
    rcases val v hv with q | q
    · rw [q] at h0; exact absurd h0 (by decide)
    · exact q
  have tm' : ∀ v < n, 0 ≤ (R'.getD v (0, 0)).1 → timeB (R'.getD v (0, 0)).1 = true := fun v hv h0 => by
    rcases val' v hv with q | q
    · rw [q] at h0; exact absurd h0 (by decide)
    · exact q
  have main : ∀ k v, v < n → 0 ≤ (R.getD v (0, 0)).1 → r v ≤ k → 0 ≤ (R'.getD v (0, 0)).1 ∧ (R'.getD v (0, 0)).1 ≤ (R.getD v (0, 0)).1 := by
    intro k
    induction k with
    | zero =>
      intro v hv h0 hk
      rcases r2 v hv h0 with rfl | ⟨i, _, _, _, _, _, j⟩
      · rw [hsrc, hsrc']; exact ⟨ht0, htt⟩
      · omega
    | succ k ih =>
      intro v hv h0 hk
      rcases r2 v hv h0 with rfl | ⟨i, hi, j1, j2, j3, j4, j5⟩
      · rw [hsrc, hsrc']; exact ⟨ht0, htt⟩
      · have hin := hE i hi
        obtain ⟨k1, k2, k3, k4⟩ := hm i hi
        obtain ⟨g1, g2⟩ := ih _ (by omega) j3 (by omega)
        have hv' := tm v hv h0
        rw [j4] at hv'
        obtain ⟨p1, p2⟩ := k4 _ _ (tm _ (by omega) j3) (tm' _ (by omega) g1) g2 hv'
        obtain ⟨c1, c2⟩ := closed' i k1 (by rw [k2]; exact g1) (by rw [k2]; exact p1)
        rw [k2, k3, j2] at c2
        rw [k3, j2] at c1
        rw [show ((v : Int)).toNat = v from rfl] at c1 c2
        have c3 : (R'.getD v (0, 0)).1 ≤ (E' i).2.2 (R'.getD (E i).1.toNat (0, 0)).1 := c2
        rw [j4]
        exact ⟨c1, by omega⟩
  exact fun v hv h0 => main (r v) v hv h0 (Nat.le_refl _)
theorem tk_lh {a : Arc} (hr : a.right) (u : Int) : a.tk false u ≤ a.tk true u := by
  obtain ⟨_, _, _, _, ho⟩ := hr
  exact (ho (hour u) (hour_lt u)).2.1
theorem pass_step_le {a : Arc} (hr : a.right) {hi hj : Bool} (h : ∀ u, a.tk hj u ≤ a.tk hi u) {x y : Int} (hx : timeB x = true) (hy : timeB y = true) (hxy : y ≤ x) (hp : timeB (a.passF hi x) = true) : timeB (a.passF hj y) = true ∧ a.passF hj y ≤ a.passF hi x := by
  have hx' := timeB_iff.1 hx
  have hy' := timeB_iff.1 hy
  rw [Arc.passF_yes _ hr hx'] at hp ⊢
  rw [Arc.passF_yes _ hr hy']
  have h1 := pass_le (t := x) h hx'.2
  have h2 := Arc.pass_mono (a := a) hj hxy hx'.2
  have h3 := (Arc.pass_bd hr hj hy'.2).1
  have h4 := timeB_iff.1 hp
  exact ⟨timeB_iff.2 ⟨by omega, by omega⟩, by omega⟩
/-- A time is not later than another one, where below 0 is never. -/
def soonerB (a b : Int) : Bool := decide (b < 0 ∨ 0 ≤ a ∧ a ≤ b)
theorem early_low {A : List DArc} {n src : Nat} {start : Int} {R R' : List DLab} (h : rightR n A = true) (h0 : 0 ≤ start) (F : Found false (moveE A true) A.length n src start R) (F' : Found false (moveE A false) A.length n src start R') {v : Nat} (hv : v < n) : soonerB (R'.getD v (0, 0)).1 (R.getD v (0, 0)).1 = true := by
  unfold soonerB
  by_cases c : (R.getD v (0, 0)).1 < 0
  · exact decide_eq_true (.inl c)
  · refine decide_eq_true (.inr (found_le (intoE h true) F F' h0 (Int.le_refl _) (fun i hi => ⟨hi, rfl, rfl, fun x y hx hy hxy hp => ?_⟩) v hv (by omega)))
    exact pass_step_le (right_at h hi).1 (tk_lh (right_at h hi).1) hx hy hxy hp
theorem early_later {A : List DArc} {n src : Nat} {start start' : Int} {R R' : List DLab} (h : rightR n A = true) (h0 : 0 ≤ start') (hs : start' ≤ start) (F : Found false (moveE A true) A.length n src start R) (F' : Found false (moveE A true) A.length n src start' R') {v : Nat} (hv : v < n) : soonerB (R'.getD v (0, 0)).1 (R.getD v (0, 0)).1 = true := by
  unfold soonerB
  by_cases c : (R.getD v (0, 0)).1 < 0
  · exact decide_eq_true (.inl c)
  · refine decide_eq_true (.inr (found_le (intoE h true) F F' h0 hs (fun i hi => ⟨hi, rfl, rfl, fun x y hx hy hxy hp => ?_⟩) v hv (by omega)))
    exact pass_step_le (right_at h hi).1 (fun _ => Int.le_refl _) hx hy hxy hp
theorem early_more {A : List DArc} {x : DArc} {n src : Nat} {start : Int} {R R' : List DLab} (h : rightR n A = true) (h0 : 0 ≤ start) (F : Found false (moveE A true) A.length n src start R) (F' : Found false (moveE (A ++ [x]) true) (A ++ [x]).length n src start R') {v : Nat} (hv : v < n) : soonerB (R'.getD v (0, 0)).1 (R.getD v (0, 0)).1 = true := by
  unfold soonerB
  by_cases c : (R.getD v (0, 0)).1 < 0
  · exact decide_eq_true (.inl c)
  · have e : ∀ i < A.length, moveE (A ++ [x]) true i = moveE A true i := fun i hi => by
      unfold moveE
      have : (A ++ [x]).getD i (0, 0, [], []) = A.getD i (0, 0, [], []) := by rw [List.getD_eq_getElem?_getD, List.getElem?_append_left hi, ← List.getD_eq_getElem?_getD]
      rw [this]
    refine decide_eq_true (.inr (found_le (intoE h true) F F' h0 (Int.le_refl _) (fun i hi => ⟨by rw [List.length_append]; omega, by rw [e i hi], by rw [e i hi], fun x y hx hy hxy hp => ?_⟩) v hv (by omega)))
    rw [e i hi]
    exact pass_step_le (right_at h hi).1 (fun _ => Int.le_refl _) hx hy hxy hp
section
variable {A : List DArc} {n to : Nat} {by_ : Int} {L : List DLab}
theorem found_tm {late : Bool} {E : Nat → Move} {m n at_ : Nat} {t : Int} {L : List DLab} (F : Found late E m n at_ t L) {v : Nat} (hv : v < n) (h0 : 0 ≤ (L.getD v (0, 0)).1) : timeB (L.getD v (0, 0)).1 = true := by
  rcases F.val v hv with q | q
  · rw [q] at h0; exact absurd h0 (by decide)
  · exact q
/-- Latest times are not later than the end. -/
theorem late_le (h : rightR n A = true) (F : Found true (moveL A) A.length n to by_ L) : ∀ v < n, 0 ≤ (L.getD v (0, 0)).1 → (L.getD v (0, 0)).1 ≤ by_ := by
  have tm := fun v hv h0 => found_tm F (v := v) hv h0
  obtain ⟨hL, val, hsrc, ⟨r, _, r2⟩, _⟩ := F
  have main : ∀ k v, v < n → 0 ≤ (L.getD v (0, 0)).1 → r v ≤ k → (L.getD v (0, 0)).1 ≤ by_ := by
    intro k
    induction k with
    | zero =>
      intro v hv h0 hk
      rcases r2 v hv h0 with rfl | ⟨i, _, _, _, _, _, j⟩
      · rw [hsrc]; exact Int.le_refl _
      · omega
    | succ k ih =>
      intro v hv h0 hk
      rcases r2 v hv h0 with rfl | ⟨i, hi, j1, j2, j3, j4, j5⟩
      · rw [hsrc]; exact Int.le_refl _
      · have hin := intoL h i hi
        have g := ih _ (by omega) j3 (by omega)
        have h1 := tm v hv h0
        have h2 := tm (moveL A i).1.toNat (by omega) j3
        rw [j4] at h1
        have h3 := goesL h i hi _ h2 h1
        rw [j4]
        have h4 : -(L.getD (moveL A i).1.toNat (0, 0)).1 ≤ -((moveL A i).2.2 (L.getD (moveL A i).1.toNat (0, 0)).1) := h3
        omega
  exact fun v hv h0 => main (r v) v hv h0 (Nat.le_refl _)
/-- Who leaves a node at its latest time is in time. -/
theorem late_in {R : List DLab} {v0 : Nat} {t0 : Int} (h : rightR n A = true) (hto : to < n) (F : Found true (moveL A) A.length n to by_ L) (G : Found false (moveE A true) A.length n v0 t0 R) (hv0 : v0 < n) (ht0 : 0 ≤ t0) (he : (L.getD v0 (0, 0)).1 = t0) : 0 ≤ (R.getD to (0, 0)).1 ∧ (R.getD to (0, 0)).1 ≤ by_ := by
  have tm := fun v hv h0 => found_tm F (v := v) hv h0
  have tm' := fun v hv h0 => found_tm G (v := v) hv h0
  obtain ⟨hL, val, hsrc, ⟨r, _, r2⟩, _⟩ := F
  obtain ⟨hL', val', hsrc', _, closed'⟩ := G
  have main : ∀ k w, w < n → 0 ≤ (L.getD w (0, 0)).1 → 0 ≤ (R.getD w (0, 0)).1 → (R.getD w (0, 0)).1 ≤ (L.getD w (0, 0)).1 → r w ≤ k → 0 ≤ (R.getD to (0, 0)).1 ∧ (R.getD to (0, 0)).1 ≤ by_ := by
    intro k
    induction k with
    | zero =>
      intro w hw h0 h1 h2 hk
      rcases r2 w hw h0 with rfl | ⟨i, _, _, _, _, _, j⟩
      · rw [hsrc] at h2; exact ⟨h1, h2⟩
      · omega
    | succ k ih =>
      intro w hw h0 h1 h2 hk
      rcases r2 w hw h0 with rfl | ⟨i, hi, j1, j2, j3, j4, j5⟩
      · rw [hsrc] at h2; exact ⟨h1, h2⟩
      · have hin := intoL h i hi
        have hr := (right_at h hi).1
        have ew : (moveE A true i).1.toNat = w := by
          show (A.getD i (0, 0, [], [])).1.toNat = w
          have : (A.getD i (0, 0, [], [])).1 = (w : Int) := j2
          omega
        have eu : (moveE A true i).2.1.toNat = (moveL A i).1.toNat := rfl
        have hRw := timeB_iff.1 (tm' w hw h1)
        have hLu := timeB_iff.1 (tm (moveL A i).1.toNat (by omega) j3)
        have j4' : (L.getD w (0, 0)).1 = (toArc (A.getD i (0, 0, [], []))).last true (L.getD (moveL A i).1.toNat (0, 0)).1 := by
          rw [j4]; exact Arc.lastF_yes _ _ hr
        rw [j4'] at h2
        have hp := (Arc.last_iff true (a := toArc (A.getD i (0, 0, [], []))) (L.getD (moveL A i).1.toNat (0, 0)).1 hRw.1 hRw.2).2 h2
        have hb := (Arc.pass_bd hr true hRw.2).1
        have epass : (moveE A true i).2.2 (R.getD w (0, 0)).1 = (toArc (A.getD i (0, 0, [], []))).pass true (R.getD w (0, 0)).1 := Arc.passF_yes _ hr hRw
        have c := closed' i hi (by rw [ew]; exact h1) (by rw [ew, epass]; exact timeB_iff.2 ⟨by omega, by omega⟩)
        rw [ew, epass, eu] at c
        have c2 : (R.getD (moveL A i).1.toNat (0, 0)).1 ≤ (toArc (A.getD i (0, 0, [], []))).pass true (R.getD w (0, 0)).1 := c.2
        exact ih _ (by omega) j3 c.1 (by omega) (by omega)
  refine main (r v0) v0 hv0 (by omega) ?_ ?_ (Nat.le_refl _)
  · rw [hsrc']; exact ht0
  · rw [hsrc', he]; exact Int.le_refl _
/-- Who leaves a node a minute later than its latest time is not in time. -/
theorem late_out {R : List DLab} {v0 : Nat} {t0 : Int} (h : rightR n A = true) (hto : to < n) (F : Found true (moveL A) A.length n to by_ L) (G : Found false (moveE A true) A.length n v0 t0 R) (he : (L.getD v0 (0, 0)).1 < t0) (hb0 : 0 ≤ by_) : ¬ (0 ≤ (R.getD to (0, 0)).1 ∧ (R.getD to (0, 0)).1 ≤ by_) := by
  have tm := fun v hv h0 => found_tm F (v := v) hv h0
  have tm' := fun v hv h0 => found_tm G (v := v) hv h0
  obtain ⟨hL, val, hsrc, _, closed⟩ := F
  obtain ⟨hL', val', hsrc', ⟨r, _, r2⟩, _⟩ := G
  have main : ∀ k w, w < n → 0 ≤ (L.getD w (0, 0)).1 → 0 ≤ (R.getD w (0, 0)).1 → (R.getD w (0, 0)).1 ≤ (L.getD w (0, 0)).1 → r w ≤ k → False := by
    intro k
    induction k with
    | zero =>
      intro w hw h0 h1 h2 hk
      rcases r2 w hw h1 with rfl | ⟨i, _, _, _, _, _, j⟩
      · rw [hsrc'] at h2
        have h3 : t0 ≤ _ := h2
        omega
      · omega
    | succ k ih =>
      intro w hw h0 h1 h2 hk
      rcases r2 w hw h1 with rfl | ⟨i, hi, j1, j2, j3, j4, j5⟩
      · rw [hsrc'] at h2
        have h3 : t0 ≤ _ := h2
        omega
      · have hin := intoE h true i hi
        have hr := (right_at h hi).1
        have ew : (moveL A i).1.toNat = w := by
          show (A.getD i (0, 0, [], [])).2.1.toNat = w
          have : (A.getD i (0, 0, [], [])).2.1 = (w : Int) := j2
          omega
        have eu : (moveL A i).2.1.toNat = (moveE A true i).1.toNat := rfl
        have hRu := timeB_iff.1 (tm' (moveE A true i).1.toNat (by omega) j3)
        have hLw := timeB_iff.1 (tm w hw h0)
        have j4' : (R.getD w (0, 0)).1 = (toArc (A.getD i (0, 0, [], []))).pass true (R.getD (moveE A true i).1.toNat (0, 0)).1 := by
          rw [j4]; exact Arc.passF_yes _ hr hRu
        rw [j4'] at h2
        have hp := (Arc.last_iff true (a := toArc (A.getD i (0, 0, [], []))) (L.getD w (0, 0)).1 hRu.1 hRu.2).1 h2
        have hb := Arc.last_is (toArc (A.getD i (0, 0, [], []))) true (L.getD w (0, 0)).1
        have elast : (moveL A i).2.2 (L.getD w (0, 0)).1 = (toArc (A.getD i (0, 0, [], []))).last true (L.getD w (0, 0)).1 := Arc.lastF_yes _ _ hr
        have c := closed i hi (by rw [ew]; exact h0) (by rw [ew, elast]; exact timeB_iff.2 ⟨by omega, hb.2.1⟩)
        rw [ew, elast, eu] at c
        have c2 : -(L.getD (moveE A true i).1.toNat (0, 0)).1 ≤ -((toArc (A.getD i (0, 0, [], []))).last true (L.getD w (0, 0)).1) := c.2
        exact ih _ (by omega) c.1 j3 (by omega) (by omega)
  rintro ⟨h1, h2⟩
  refine main (r to) to hto ?_ h1 ?_ (Nat.le_refl _)
  · rw [hsrc]; exact hb0
  · rw [hsrc]; exact h2
end
end Go.Proofs.Ytbbjopgneophnaa
