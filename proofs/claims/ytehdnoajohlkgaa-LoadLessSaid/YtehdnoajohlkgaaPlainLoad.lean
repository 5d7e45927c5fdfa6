/- The plain mathematics of layer 17 (load): stops that are right, who is in the car, loads; no program in sight. -/
import Init
namespace Go.Proofs.Ytehdnoajohlkgaa
set_option linter.unusedSimpArgs false
set_option linter.unusedVariables false
abbrev DStop := Int × Bool
abbrev DReq := Int × Int × Int × Int × Int × Int × Int × Int × Int × Int
abbrev DLoad := Int × Int × Int
@[reducible] def dReq : DReq := (0, 0, 0, 0, 0, 0, 0, 0, 0, 0)
@[reducible] def dStop : DStop := (0, false)
def reqLoad (r : DReq) : DLoad := (r.2.2.2.2.2.2.2.1, r.2.2.2.2.2.2.2.2.1, r.2.2.2.2.2.2.2.2.2)
def place1 (n : Int) : Bool := decide (0 ≤ n ∧ n ≤ 60)
def placesB (l : DLoad) : Bool := place1 l.1 && (place1 l.2.1 && place1 l.2.2)
theorem placesB_iff {l : DLoad} : placesB l = true ↔ (0 ≤ l.1 ∧ l.1 ≤ 60) ∧ (0 ≤ l.2.1 ∧ l.2.1 ≤ 60) ∧ 0 ≤ l.2.2 ∧ l.2.2 ≤ 60 := by simp [placesB, place1]
/-- The stop with an index is right. -/
def OkAt (ss : List DStop) (rs : List DReq) (i : Nat) : Prop :=
  (0 ≤ (ss.getD i dStop).1 ∧ (ss.getD i dStop).1 < rs.length) ∧ placesB (reqLoad (rs.getD (ss.getD i dStop).1.toNat dReq)) = true ∧ ss.getD i dStop ∉ ss.take i ∧ ((ss.getD i dStop).2 = true → ((ss.getD i dStop).1, false) ∈ ss.drop (i + 1))
instance (ss : List DStop) (rs : List DReq) (i : Nat) : Decidable (OkAt ss rs i) := by unfold OkAt; infer_instance
def RightS (ss : List DStop) (rs : List DReq) : Prop := (ss.length ≤ 80 ∧ rs.length ≤ 30000) ∧ ∀ i, i < ss.length → OkAt ss rs i
instance (ss : List DStop) (rs : List DReq) : Decidable (RightS ss rs) := by unfold RightS; infer_instance
def rightS (ss : List DStop) (rs : List DReq) : Bool := decide (RightS ss rs)
theorem getD_get {ss : List DStop} {i : Nat} (h : i < ss.length) : ss.getD i dStop = ss[i] := by simp [List.getD, h]
/-- Where a stop is first, or -1. -/
def atF (x : DStop) : List DStop → Int
  | [] => -1
  | s :: r => if s = x then 0 else if atF x r < 0 then -1 else atF x r + 1
theorem atF_spec (x : DStop) : ∀ ss : List DStop, atF x ss = -1 ∧ x ∉ ss ∨ ∃ i : Nat, i < ss.length ∧ atF x ss = i ∧ ss.getD i dStop = x ∧ x ∉ ss.take i
  | [] => .inl ⟨rfl, by simp⟩
  | s :: r => by
    unfold atF
    by_cases h : s = x
    · rw [if_pos h]
      exact .inr ⟨0, by simp, rfl, by simpa using h, by simp⟩
    · rw [if_neg h]
      rcases atF_spec x r with ⟨h1, h2⟩ | ⟨i, h1, h2, h3, h4⟩
      · left
        rw [if_pos (by omega)]
        exact ⟨rfl, by simp [h2, Ne.symm h]⟩
      · right
        rw [if_neg (by omega)]
        exact ⟨i + 1, by simpa using h1, by omega, by simpa using h3, by simp [h4, Ne.symm h]⟩
theorem atF_none {x : DStop} {ss : List DStop} (h : x ∉ ss) : atF x ss = -1 := by
  rcases atF_spec x ss with ⟨h1, _⟩ | ⟨i, h1, _, h3, _⟩
  · exact h1
  · exfalso; apply h; rw [← h3, getD_get h1]; exact List.getElem_mem h1
theorem getD_mem {ss : List DStop} {i : Nat} (h : i < ss.length) : ss.getD i dStop ∈ ss := by rw [getD_get h]; exact List.getElem_mem h
theorem mem_take_of {ss : List DStop} {i j : Nat} (h : i < ss.length) (hj : i < j) : ss.getD i dStop ∈ ss.take j := by
  rw [List.mem_take_iff_getElem]
  exact ⟨i, by omega, by rw [getD_get h]⟩
theorem atF_at {x : DStop} {ss : List DStop} {i : Nat} (hi : i < ss.length) (h : ss.getD i dStop = x) (h' : x ∉ ss.take i) : atF x ss = i := by
  rcases atF_spec x ss with ⟨_, h2⟩ | ⟨j, h1, h2, h3, h4⟩
  · exfalso; apply h2; rw [← h]; exact getD_mem hi
  · rcases Nat.lt_trichotomy i j with c | c | c
    · exact (h4 (h ▸ mem_take_of hi c)).elim
    · rw [h2, c]
    · exact (h' (h3 ▸ mem_take_of h1 c)).elim
theorem mem_take_lt {x : DStop} {ss : List DStop} {j : Nat} (h : x ∈ ss.take j) : ∃ i, i < j ∧ i < ss.length ∧ ss.getD i dStop = x := by
  obtain ⟨i, hi, e⟩ := List.mem_take_iff_getElem.1 h
  exact ⟨i, by omega, by omega, by rw [getD_get (by omega)]; exact e⟩
theorem mem_drop_ge {x : DStop} {ss : List DStop} {j : Nat} (h : x ∈ ss.drop j) : ∃ i, j ≤ i ∧ i < ss.length ∧ ss.getD i dStop = x := by
  obtain ⟨i, hi, e⟩ := List.mem_drop_iff_getElem.1 h
  exact ⟨j + i, by omega, by omega, by rw [getD_get (by omega)]; exact e⟩
theorem mem_drop_of {ss : List DStop} {i j : Nat} (h : i < ss.length) (hj : j ≤ i) : ss.getD i dStop ∈ ss.drop j := by
  rw [List.mem_drop_iff_getElem]
  exact ⟨i - j, by omega, by rw [getD_get h]; congr 1; omega⟩
/-- A stop of right ones is where it is first. -/
theorem RightS.at_eq {ss : List DStop} {rs : List DReq} (h : RightS ss rs) {i : Nat} (hi : i < ss.length) : atF (ss.getD i dStop) ss = i := atF_at hi rfl (h.2 i hi).2.2.1
theorem RightS.inj {ss : List DStop} {rs : List DReq} (h : RightS ss rs) {i j : Nat} (hi : i < ss.length) (hj : j < ss.length) (e : ss.getD i dStop = ss.getD j dStop) : i = j := by
  have h1 := h.at_eq hi
  rw [e, h.at_eq hj] at h1
  omega
theorem RightS.drop_after {ss : List DStop} {rs : List DReq} (h : RightS ss rs) {i : Nat} (hi : i < ss.length) (hp : (ss.getD i dStop).2 = true) : (i : Int) < atF ((ss.getD i dStop).1, false) ss := by
  obtain ⟨j, h1, h2, h3⟩ := mem_drop_ge ((h.2 i hi).2.2.2 hp)
  have := h.at_eq h2
  rw [h3] at this
  omega
/-- What the reference asks of a stop. -/
def OkRef (ss : List DStop) (rs : List DReq) (i : Nat) : Prop :=
  (0 ≤ (ss.getD i dStop).1 ∧ (ss.getD i dStop).1 < rs.length) ∧ atF (ss.getD i dStop) ss = i ∧ placesB (reqLoad (rs.getD (ss.getD i dStop).1.toNat dReq)) = true ∧ ((ss.getD i dStop).2 = true → (i : Int) < atF ((ss.getD i dStop).1, false) ss)
theorem right_ref {ss : List DStop} {rs : List DReq} : RightS ss rs ↔ (ss.length ≤ 80 ∧ rs.length ≤ 30000) ∧ ∀ i, i < ss.length → OkRef ss rs i := by
  constructor
  · intro h
    exact ⟨h.1, fun i hi => ⟨(h.2 i hi).1, h.at_eq hi, (h.2 i hi).2.1, h.drop_after hi⟩⟩
  · rintro ⟨h0, h⟩
    refine ⟨h0, fun i hi => ?_⟩
    obtain ⟨h1, h2, h3, h4⟩ := h i hi
    refine ⟨h1, h3, fun hm => ?_, fun hp => ?_⟩
    · obtain ⟨j, hj, hjl, e⟩ := mem_take_lt hm
      have := (h j hjl).2.1
      rw [e, h2] at this
      omega
    · have h5 := h4 hp
      rcases atF_spec ((ss.getD i dStop).1, false) ss with ⟨q, _⟩ | ⟨j, q1, q2, q3, _⟩
      · omega
      · rw [← q3]; exact mem_drop_of q1 (by omega)
/-- Is a request in the car after so many stops? -/
def inB (ss : List DStop) (k j : Int) : Bool := decide (atF (k, true) ss < j) && decide (j ≤ atF (k, false) ss)
theorem inB_iff {ss : List DStop} {k j : Int} : inB ss k j = true ↔ atF (k, true) ss < j ∧ j ≤ atF (k, false) ss := by simp [inB]

/-! Who is in the car, as a list of keys in the order in which they came. -/
def kset : List Int → Int → List Int
  | [], i => [i]
  | p :: r, i => if p = i then i :: r else p :: kset r i
def kdel : List Int → Int → List Int
  | [], _ => []
  | p :: r, i => if p = i then r else p :: kdel r i
theorem mem_kset {k x : Int} : ∀ {ks : List Int}, x ∈ kset ks k ↔ x ∈ ks ∨ x = k
  | [] => by simp [kset]
  | p :: r => by
    unfold kset
    split
    · subst p; simp only [List.mem_cons]; constructor
      · rintro (h | h) <;> simp [h]
      · rintro ((h | h) | h) <;> simp [h]
    · simp only [List.mem_cons, mem_kset (ks := r), or_assoc]
theorem kset_nodup {k : Int} : ∀ {ks : List Int}, ks.Nodup → (kset ks k).Nodup
  | [], _ => by simp [kset]
  | p :: r, h => by
    rw [List.nodup_cons] at h
    unfold kset
    split
    · rename_i e; rw [List.nodup_cons, ← e]; exact h
    · rename_i e
      rw [List.nodup_cons, mem_kset]
      exact ⟨fun q => q.elim h.1 e, kset_nodup h.2⟩
theorem mem_kdel {k x : Int} : ∀ {ks : List Int}, ks.Nodup → (x ∈ kdel ks k ↔ x ∈ ks ∧ x ≠ k)
  | [], _ => by simp [kdel]
  | p :: r, h => by
    rw [List.nodup_cons] at h
    unfold kdel
    split
    · rename_i e; subst e
      rw [List.mem_cons]
      constructor
      · intro q; exact ⟨.inr q, fun z => h.1 (z ▸ q)⟩
      · rintro ⟨q | q, z⟩
        · exact (z q).elim
        · exact q
    · rename_i e
      rw [List.mem_cons, List.mem_cons, mem_kdel h.2]
      constructor
      · rintro (q | ⟨q, z⟩)
        · exact ⟨.inl q, fun z => e (q ▸ z)⟩
        · exact ⟨.inr q, z⟩
      · rintro ⟨q | q, z⟩
        · exact .inl q
        · exact .inr ⟨q, z⟩
theorem kdel_sub {k x : Int} : ∀ {ks : List Int}, x ∈ kdel ks k → x ∈ ks
  | [], h => by simp [kdel] at h
  | p :: r, h => by
    unfold kdel at h
    split at h
    · exact .tail _ h
    · rcases List.mem_cons.1 h with q | q
      · rw [q]; exact .head _
      · exact .tail _ (kdel_sub q)
theorem kdel_nodup {k : Int} : ∀ {ks : List Int}, ks.Nodup → (kdel ks k).Nodup
  | [], _ => by simp [kdel]
  | p :: r, h => by
    rw [List.nodup_cons] at h
    unfold kdel
    split
    · exact h.2
    · rw [List.nodup_cons]
      exact ⟨fun q => h.1 (kdel_sub q), kdel_nodup h.2⟩
def stopK (ks : List Int) (s : DStop) : List Int := if s.2 = true then kset ks s.1 else kdel ks s.1
def dropK (ks : List Int) (s : DStop) : List Int := if s.2 = true then ks else kset ks s.1
def pickK (ks : List Int) (s : DStop) : List Int := if s.2 = true then kdel ks s.1 else ks
def dropsK (ss : List DStop) : List Int := ss.foldl dropK []
def firstK (ss ts : List DStop) : List Int := ts.foldl pickK (dropsK ss)
def cabK (ss : List DStop) : Nat → List Int
  | 0 => firstK ss ss
  | j + 1 => stopK (cabK ss j) (ss.getD j dStop)
theorem take_next {ss : List DStop} {i : Nat} (h : i < ss.length) : ss.take (i + 1) = ss.take i ++ [ss.getD i dStop] := by
  rw [getD_get h, List.take_append_getElem]
theorem dropsK_next {ss : List DStop} {i : Nat} (h : i < ss.length) : dropsK (ss.take (i + 1)) = dropK (dropsK (ss.take i)) (ss.getD i dStop) := by
  unfold dropsK; rw [take_next h, List.foldl_append]; rfl
theorem firstK_next {ss ts : List DStop} {i : Nat} (h : i < ts.length) : firstK ss (ts.take (i + 1)) = pickK (firstK ss (ts.take i)) (ts.getD i dStop) := by
  unfold firstK; rw [take_next h, List.foldl_append]; rfl
theorem drops_fold {x : Int} : ∀ (ss : List DStop) (ks : List Int), (x ∈ ss.foldl dropK ks ↔ x ∈ ks ∨ (x, false) ∈ ss) ∧ (ks.Nodup → (ss.foldl dropK ks).Nodup)
  | [], ks => by simp
  | s :: r, ks => by
    obtain ⟨h1, h2⟩ := drops_fold (x := x) r (dropK ks s)
    rw [List.foldl_cons]
    refine ⟨?_, fun h => h2 ?_⟩
    · rw [h1]
      obtain ⟨k, p⟩ := s
      cases p <;> simp [dropK, mem_kset, or_assoc]
    · unfold dropK
      split
      · exact h
      · exact kset_nodup h
theorem picks_fold {x : Int} : ∀ (ss : List DStop) (ks : List Int), ks.Nodup → (x ∈ ss.foldl pickK ks ↔ x ∈ ks ∧ (x, true) ∉ ss) ∧ (ss.foldl pickK ks).Nodup
  | [], ks, h => by simp [h]
  | s :: r, ks, h => by
    rw [List.foldl_cons]
    have hn : (pickK ks s).Nodup := by
      unfold pickK
      split
      · exact kdel_nodup h
      · exact h
    obtain ⟨h1, h2⟩ := picks_fold (x := x) r (pickK ks s) hn
    refine ⟨?_, h2⟩
    rw [h1]
    obtain ⟨k, p⟩ := s
    cases p
    · simp [pickK]
    · simp [pickK, mem_kdel h, and_assoc]
theorem first_mem {ss : List DStop} {x : Int} : (x ∈ firstK ss ss ↔ (x, false) ∈ ss ∧ (x, true) ∉ ss) ∧ (firstK ss ss).Nodup := by
  have h := drops_fold (x := x) ss []
  have h2 := picks_fold (x := x) ss (dropsK ss) (h.2 (by simp))
  refine ⟨?_, h2.2⟩
  unfold firstK
  rw [h2.1]
  unfold dropsK
  rw [h.1]; simp
theorem at_mem {x : DStop} {ss : List DStop} : 0 ≤ atF x ss ↔ x ∈ ss := by
  rcases atF_spec x ss with ⟨h1, h2⟩ | ⟨i, h1, h2, h3, h4⟩
  · rw [h1]; simp [h2]
  · rw [h2, ← h3]; exact ⟨fun _ => getD_mem h1, fun _ => by omega⟩
/-- Who is in the car. -/
theorem cab_mem {ss : List DStop} {rs : List DReq} (h : RightS ss rs) : ∀ {j : Nat}, j ≤ ss.length → (cabK ss j).Nodup ∧ ∀ x, x ∈ cabK ss j ↔ inB ss x j = true
  | 0, _ => by
    refine ⟨(first_mem (x := 0)).2, fun x => ?_⟩
    show x ∈ firstK ss ss ↔ _
    rw [first_mem.1, inB_iff, ← at_mem, ← at_mem]
    constructor
    · rintro ⟨h1, h2⟩; exact ⟨by simpa using h2, by simpa using h1⟩
    · rintro ⟨h1, h2⟩; exact ⟨by simpa using h2, by simpa using h1⟩
  | j + 1, hj => by
    obtain ⟨h1, h2⟩ := cab_mem h (j := j) (by omega)
    have hjl : j < ss.length := by omega
    have ha := h.at_eq hjl
    have hd := h.drop_after hjl
    have hne : ∀ y, y ≠ ss.getD j dStop → atF y ss ≠ j := fun y hy q => by
      rcases atF_spec y ss with ⟨q1, _⟩ | ⟨i, q1, q2, q3, _⟩
      · omega
      · have : i = j := by omega
        subst this
        exact hy q3.symm
    unfold cabK
    generalize ss.getD j dStop = s at ha hd hne ⊢
    obtain ⟨k, p⟩ := s
    cases p
    · refine ⟨by simpa [stopK] using kdel_nodup h1, fun x => ?_⟩
      have e : stopK (cabK ss j) (k, false) = kdel (cabK ss j) k := rfl
      rw [e, mem_kdel h1, h2, inB_iff, inB_iff]
      have q1 := hne (x, true) (by simp)
      have q2 := fun z : x ≠ k => hne (x, false) (by simpa using z)
      constructor
      · rintro ⟨⟨h3, h4⟩, h5⟩
        have := q2 h5
        omega
      · rintro ⟨h3, h4⟩
        refine ⟨by omega, fun z => ?_⟩
        subst z
        omega
    · refine ⟨by simpa [stopK] using kset_nodup h1, fun x => ?_⟩
      have e : stopK (cabK ss j) (k, true) = kset (cabK ss j) k := rfl
      rw [e, mem_kset, h2, inB_iff, inB_iff]
      have q1 := hne (x, false) (by simp)
      have q2 := fun z : x ≠ k => hne (x, true) (by simpa using z)
      have h6 := hd rfl
      constructor
      · rintro (⟨h3, h4⟩ | h3)
        · omega
        · subst h3
          have h6 : (j : Int) < atF (x, false) ss := h6
          omega
      · rintro ⟨h3, h4⟩
        by_cases z : x = k
        · exact .inr z
        · have := q2 z
          left; omega
/-- Who is in the car is one of the requests, with right places. -/
theorem RightS.in_req {ss : List DStop} {rs : List DReq} (h : RightS ss rs) {k : Int} {j : Nat} (hk : inB ss k j = true) : (0 ≤ k ∧ k < rs.length) ∧ placesB (reqLoad (rs.getD k.toNat dReq)) = true := by
  rw [inB_iff] at hk
  have hm : (k, false) ∈ ss := at_mem.1 (by omega)
  rcases atF_spec (k, false) ss with ⟨q, _⟩ | ⟨i, h1, _, h3, _⟩
  · omega
  · have h4 := h.2 i h1
    unfold OkAt at h4
    rw [h3] at h4
    exact ⟨h4.1, h4.2.1⟩

/-! Loads. -/
def add3 (a b : DLoad) : DLoad := (a.1 + b.1, a.2.1 + b.2.1, a.2.2 + b.2.2)
theorem add3_comm (a b : DLoad) : add3 a b = add3 b a := by unfold add3; simp [Int.add_comm]
theorem add3_assoc (a b c : DLoad) : add3 (add3 a b) c = add3 a (add3 b c) := by unfold add3; simp [Int.add_assoc]
theorem add3_zero (a : DLoad) : add3 a (0, 0, 0) = a := by unfold add3; simp
theorem zero_add3 (a : DLoad) : add3 (0, 0, 0) a = a := by unfold add3; simp
def sumTo (f : Nat → DLoad) : Nat → DLoad
  | 0 => (0, 0, 0)
  | n + 1 => add3 (sumTo f n) (f n)
theorem sumTo_congr {f g : Nat → DLoad} : ∀ {n : Nat}, (∀ i, i < n → f i = g i) → sumTo f n = sumTo g n
  | 0, _ => rfl
  | n + 1, h => by unfold sumTo; rw [sumTo_congr (n := n) (fun i hi => h i (by omega)), h n (by omega)]
def rl (rs : List DReq) (k : Int) : DLoad := reqLoad (rs.getD k.toNat dReq)
def sumK (rs : List DReq) : List Int → DLoad
  | [] => (0, 0, 0)
  | k :: ks => add3 (rl rs k) (sumK rs ks)
def afterF (ss : List DStop) (rs : List DReq) (j : Int) : DLoad := sumTo (fun i => if inB ss i j = true then rl rs i else (0, 0, 0)) rs.length
theorem sumK_erase {rs : List DReq} {k : Int} : ∀ {ks : List Int}, k ∈ ks → sumK rs ks = add3 (rl rs k) (sumK rs (kdel ks k))
  | [], h => by simp at h
  | p :: r, h => by
    unfold kdel
    split
    · rename_i e; rw [← e]; rfl
    · rename_i e
      have hr : k ∈ r := by rcases List.mem_cons.1 h with q | q; exact (e q.symm).elim; exact q
      rw [sumK, sumK_erase hr, ← add3_assoc, add3_comm (rl rs p), add3_assoc]; rfl
theorem sumK_to {rs : List DReq} : ∀ {n : Nat} {ks : List Int}, ks.Nodup → (∀ k ∈ ks, 0 ≤ k ∧ k < n) → sumK rs ks = sumTo (fun i => if (i : Int) ∈ ks then rl rs i else (0, 0, 0)) n
  | 0, ks, hn, hk => by
    cases ks with
    | nil => rfl
    | cons k r => have := hk k (by simp); omega
  | n + 1, ks, hn, hk => by
    have hn' := kdel_nodup (k := (n : Int)) hn
    have hk' : ∀ k ∈ kdel ks n, 0 ≤ k ∧ k < (n : Int) := fun k q => by
      have q2 := (mem_kdel hn).1 q
      have := hk k q2.1
      have := q2.2
      omega
    have ih := sumK_to (rs := rs) hn' hk'
    unfold sumTo
    by_cases c : (n : Int) ∈ ks
    · rw [sumK_erase c, if_pos c, ih, add3_comm]
      congr 1
      refine sumTo_congr fun i hi => ?_
      have : ((i : Int) ∈ kdel ks n) ↔ (i : Int) ∈ ks := by rw [mem_kdel hn]; exact ⟨fun q => q.1, fun q => ⟨q, by omega⟩⟩
      simp [this]
    · rw [if_neg c, add3_zero]
      exact sumK_to hn fun k q => by
        have := hk k q
        have : k ≠ n := fun e => c (e ▸ q)
        omega
theorem cab_load {ss : List DStop} {rs : List DReq} (h : RightS ss rs) {j : Nat} (hj : j ≤ ss.length) : sumK rs (cabK ss j) = afterF ss rs j := by
  obtain ⟨h1, h2⟩ := cab_mem h hj
  rw [sumK_to (n := rs.length) h1 fun k hk => (h.in_req ((h2 k).1 hk)).1]
  unfold afterF
  refine sumTo_congr fun i _ => ?_
  simp only [h2]
theorem sumTo_bd {f : Nat → DLoad} : ∀ {n : Nat}, (∀ i, i < n → placesB (f i) = true) → (0 ≤ (sumTo f n).1 ∧ (sumTo f n).1 ≤ 60 * n) ∧ (0 ≤ (sumTo f n).2.1 ∧ (sumTo f n).2.1 ≤ 60 * n) ∧ 0 ≤ (sumTo f n).2.2 ∧ (sumTo f n).2.2 ≤ 60 * n
  | 0, _ => by simp [sumTo]
  | n + 1, h => by
    have h1 := sumTo_bd (n := n) fun i hi => h i (by omega)
    have h2 := placesB_iff.1 (h n (by omega))
    unfold sumTo add3
    simp only
    omega
theorem after_part {ss : List DStop} {rs : List DReq} (h : RightS ss rs) (j : Nat) (i : Nat) : placesB (if inB ss i j = true then rl rs i else (0, 0, 0)) = true := by
  split
  · rename_i c; exact (h.in_req c).2
  · rfl
/-- The loads, at first and after each stop. -/
def loadsF (ss : List DStop) (rs : List DReq) : List DLoad := (List.range (ss.length + 1)).map fun j => afterF ss rs (j : Nat)
def profF (ss : List DStop) (rs : List DReq) : List DLoad × Int := if rightS ss rs = true then (loadsF ss rs, 0) else ([], 1)
def overB (x c : DLoad) : Bool := decide (c.1 < x.1) || (decide (c.2.1 < x.2.1) || decide (c.2.2 < x.2.2))
abbrev DCar := Int × Int × Int × Int × Int × Int × Int × Int × Int
def carLoad (c : DCar) : DLoad := (c.2.2.2.2.1, c.2.2.2.2.2.1, c.2.2.2.2.2.2.1)
/-- The index of the first element for which p holds, or -1. -/
def idxF {α : Type} (p : α → Bool) : List α → Int
  | [] => -1
  | x :: r => if p x then 0 else if idxF p r < 0 then -1 else idxF p r + 1
theorem idxF_at {α : Type} {p : α → Bool} {d : α} : ∀ {l : List α} {k : Nat}, k < l.length → (∀ j, j < k → p (l.getD j d) = false) → p (l.getD k d) = true → idxF p l = k
  | [], k, h, _, _ => by simp at h
  | x :: r, 0, _, _, h => by simp at h; simp [idxF, h]
  | x :: r, k + 1, h, hg, hb => by
    have h0 := hg 0 (by omega)
    simp at h0
    have h1 := idxF_at (p := p) (d := d) (l := r) (k := k) (by simpa using h) (fun j hj => by simpa using hg (j + 1) (by omega)) (by simpa using hb)
    simp [idxF, h0, h1]; omega
theorem idxF_none {α : Type} {p : α → Bool} {d : α} : ∀ {l : List α}, (∀ j, j < l.length → p (l.getD j d) = false) → idxF p l = -1
  | [], _ => rfl
  | x :: r, hg => by
    have h0 := hg 0 (by simp)
    simp at h0
    have h1 := idxF_none (p := p) (d := d) (l := r) (fun j hj => by simpa using hg (j + 1) (by simpa using hj))
    simp [idxF, h0, h1]
def overF (c : DLoad) (l : List DLoad) : Int := idxF (fun x => overB x c) l
theorem profF_len {ss : List DStop} {rs : List DReq} : (profF ss rs).1.length ≤ 81 := by
  unfold profF
  split
  · rename_i h
    have hr : RightS ss rs := of_decide_eq_true h
    have := hr.1.1
    show (loadsF ss rs).length ≤ 81
    unfold loadsF
    rw [List.length_map, List.length_range]; omega
  · exact Nat.zero_le _
theorem profF_ok {ss : List DStop} {rs : List DReq} : (profF ss rs).2 = 0 ↔ rightS ss rs = true := by
  unfold profF; split <;> simp_all
/-- Is there room? -/
def fitsF (c : DLoad) (ss : List DStop) (rs : List DReq) : Int × Int :=
  if rightS ss rs = true ∧ placesB c = true then (if 0 ≤ overF c (loadsF ss rs) then (overF c (loadsF ss rs), 27) else (0, 0)) else (0, 1)
theorem fits_bad {c : DLoad} {ss : List DStop} {rs : List DReq} (h : ¬ (profF ss rs).2 = 0 ∨ placesB c = false) : fitsF c ss rs = (0, 1) := by
  unfold fitsF
  rw [if_neg]
  rintro ⟨h1, h2⟩
  rcases h with h | h
  · exact h (profF_ok.2 h1)
  · rw [h] at h2; cases h2
theorem fits_full {c : DLoad} {ss : List DStop} {rs : List DReq} (h : (profF ss rs).2 = 0 ∧ placesB c = true) (h2 : 0 ≤ overF c (profF ss rs).1) : fitsF c ss rs = (overF c (profF ss rs).1, 27) := by
  have h1 := profF_ok.1 h.1
  unfold fitsF profF at *
  rw [if_pos ⟨h1, h.2⟩]
  rw [if_pos h1] at h2 ⊢
  rw [if_pos h2]
theorem fits_ok {c : DLoad} {ss : List DStop} {rs : List DReq} (h : (profF ss rs).2 = 0 ∧ placesB c = true) (h2 : overF c (profF ss rs).1 < 0) : fitsF c ss rs = (0, 0) := by
  have h1 := profF_ok.1 h.1
  unfold fitsF profF at *
  rw [if_pos ⟨h1, h.2⟩]
  rw [if_pos h1] at h2
  dsimp only at h2
  rw [if_neg (by omega)]
def ridesB (ss : List DStop) (rs : List DReq) (m : Int) (j : Nat) : Bool := (List.range rs.length).any fun i => decide ((rs.getD i dReq).1 = m) && inB ss i j
abbrev DPair := Int × Int × Bool
def someTo (ss : List DStop) (rs : List DReq) (p : DPair) (n : Nat) : Bool := (List.range n).any fun j => ridesB ss rs p.1 j || ridesB ss rs p.2.1 j
def bothTo (ss : List DStop) (rs : List DReq) (p : DPair) (n : Nat) : Bool := (List.range n).any fun j => ridesB ss rs p.1 j && ridesB ss rs p.2.1 j
theorem someTo_next (ss : List DStop) (rs : List DReq) (p : DPair) (n : Nat) : someTo ss rs p (n + 1) = (someTo ss rs p n || ridesB ss rs p.1 n || ridesB ss rs p.2.1 n) := by
  unfold someTo; rw [List.range_succ, List.any_append]; simp [Bool.or_assoc]
theorem bothTo_next (ss : List DStop) (rs : List DReq) (p : DPair) (n : Nat) : bothTo ss rs p (n + 1) = (bothTo ss rs p n || (ridesB ss rs p.1 n && ridesB ss rs p.2.1 n)) := by
  unfold bothTo; rw [List.range_succ, List.any_append]; simp
def someB (ss : List DStop) (rs : List DReq) (p : DPair) : Bool := someTo ss rs p (ss.length + 1)
def bothB (ss : List DStop) (rs : List DReq) (p : DPair) : Bool := bothTo ss rs p (ss.length + 1)
def pairB (ss : List DStop) (rs : List DReq) (p : DPair) : Bool := if p.2.2 = true then !someB ss rs p || bothB ss rs p else !bothB ss rs p
def togF (ps : List DPair) (ss : List DStop) (rs : List DReq) : Bool := rightS ss rs && ps.all (pairB ss rs)
theorem tog_one {ss : List DStop} {rs : List DReq} (p : DPair) : togF [p] ss rs = (rightS ss rs && pairB ss rs p) := by unfold togF; simp
theorem some_sym {ss : List DStop} {rs : List DReq} (a b : Int) (m m' : Bool) : someB ss rs (a, b, m) = someB ss rs (b, a, m') := by
  unfold someB someTo; congr 1; funext j; exact Bool.or_comm _ _
theorem both_sym {ss : List DStop} {rs : List DReq} (a b : Int) (m m' : Bool) : bothB ss rs (a, b, m) = bothB ss rs (b, a, m') := by
  unfold bothB bothTo; congr 1; funext j; exact Bool.and_comm _ _
theorem pair_sym {ss : List DStop} {rs : List DReq} (a b : Int) (m : Bool) : pairB ss rs (a, b, m) = pairB ss rs (b, a, m) := by
  unfold pairB; rw [some_sym a b m m, both_sym a b m m]
theorem both_some {ss : List DStop} {rs : List DReq} {p : DPair} (h : bothB ss rs p = true) : someB ss rs p = true := by
  unfold bothB bothTo at h
  unfold someB someTo
  rw [List.any_eq_true] at h ⊢
  obtain ⟨j, hj, h⟩ := h
  rw [Bool.and_eq_true] at h
  exact ⟨j, hj, by rw [h.1]; rfl⟩
theorem pair_not {ss : List DStop} {rs : List DReq} (a b : Int) (m : Bool) : (pairB ss rs (a, b, m) && pairB ss rs (a, b, !m)) = !someB ss rs (a, b, m) := by
  have h := both_some (ss := ss) (rs := rs) (p := (a, b, m))
  have e1 : someB ss rs (a, b, !m) = someB ss rs (a, b, m) := rfl
  have e2 : bothB ss rs (a, b, !m) = bothB ss rs (a, b, m) := rfl
  unfold pairB
  rw [e1, e2]
  generalize someB ss rs (a, b, m) = x at h ⊢
  generalize bothB ss rs (a, b, m) = y at h ⊢
  cases m <;> cases x <;> cases y <;> simp_all
def allTo (ps : List DPair) (ss : List DStop) (rs : List DReq) (n : Nat) : Bool := (List.range n).all fun i => togF [ps.getD i (0, 0, false)] ss rs
theorem allTo_next (ps : List DPair) (ss : List DStop) (rs : List DReq) (n : Nat) : allTo ps ss rs (n + 1) = (allTo ps ss rs n && togF [ps.getD n (0, 0, false)] ss rs) := by
  unfold allTo; rw [List.range_succ, List.all_append]; simp
theorem all_tog {ps : List DPair} {ss : List DStop} {rs : List DReq} : togF ps ss rs = (rightS ss rs && allTo ps ss rs ps.length) := by
  unfold togF
  cases h : rightS ss rs
  · rfl
  · rw [Bool.true_and, Bool.true_and]
    unfold allTo
    rw [Bool.eq_iff_iff, List.all_eq_true, List.all_eq_true]
    constructor
    · intro q i hi
      rw [List.mem_range] at hi
      rw [tog_one, h, Bool.true_and]
      exact q _ (by simp [List.getD, hi])
    · intro q p hp
      obtain ⟨i, hi, rfl⟩ := List.getElem_of_mem hp
      have := q i (List.mem_range.2 hi)
      rw [tog_one, h, Bool.true_and] at this
      rwa [List.getD, List.getElem?_eq_getElem hi] at this
theorem tog_nil {ss : List DStop} {rs : List DReq} : togF [] ss rs = rightS ss rs := by unfold togF; simp
theorem tog_no {ps : List DPair} {ss : List DStop} {rs : List DReq} {n : Nat} (hn : n < ps.length) (h : pairB ss rs (ps.getD n (0, 0, false)) = false) : false = togF ps ss rs := by
  symm
  unfold togF
  rw [Bool.and_eq_false_iff]
  right
  rw [List.all_eq_false]
  refine ⟨ps.getD n (0, 0, false), ?_, by rw [h]; simp⟩
  simp [List.getD, hn]
theorem tog_yes {ps : List DPair} {ss : List DStop} {rs : List DReq} (hr : rightS ss rs = true) (h : ∀ i, i < ps.length → pairB ss rs (ps.getD i (0, 0, false)) = true) : true = togF ps ss rs := by
  symm
  unfold togF
  rw [hr, Bool.true_and, List.all_eq_true]
  intro p hp
  obtain ⟨i, hi, rfl⟩ := List.getElem_of_mem hp
  have := h i hi
  rwa [List.getD, List.getElem?_eq_getElem hi] at this
end Go.Proofs.Ytehdnoajohlkgaa
