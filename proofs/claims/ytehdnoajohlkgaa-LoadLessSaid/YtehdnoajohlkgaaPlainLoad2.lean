/- The plain laws of layer 17 (load): steps, one request more, one less; no program in sight. -/
import Derived.Test.YtehdnoajohlkgaaPlainLoad
namespace Go.Proofs.Ytehdnoajohlkgaa
set_option linter.unusedSimpArgs false
set_option linter.unusedVariables false
theorem at_lt {x : DStop} {ss : List DStop} : -1 ≤ atF x ss ∧ atF x ss < ss.length := by
  rcases atF_spec x ss with ⟨h1, h2⟩ | ⟨i, h1, h2, h3, h4⟩ <;> omega
theorem at_take {x : DStop} {ss : List DStop} {p : Nat} : atF x ss < p ↔ x ∈ ss.take p ∨ x ∉ ss := by
  rcases atF_spec x ss with ⟨h1, h2⟩ | ⟨i, h1, h2, h3, h4⟩
  · rw [h1]
    exact ⟨fun _ => .inr h2, fun _ => by omega⟩
  · rw [h2]
    constructor
    · intro h
      left; rw [← h3]; exact mem_take_of h1 (by omega)
    · rintro (h | h)
      · obtain ⟨j, hj, hjl, e⟩ := mem_take_lt h
        rcases Nat.lt_or_ge j i with c | c
        · exact (h4 (e ▸ mem_take_of hjl c)).elim
        · omega
      · exact (h (h3 ▸ getD_mem h1)).elim
/-- Who is in the car, told by what is done before. -/
theorem inB_mem {ss : List DStop} {k : Int} {p : Nat} : inB ss k p = true ↔ ((k, true) ∈ ss.take p ∨ (k, true) ∉ ss) ∧ (k, false) ∈ ss ∧ (k, false) ∉ ss.take p := by
  rw [inB_iff, at_take]
  have : (p : Int) ≤ atF (k, false) ss ↔ ¬ (atF (k, false) ss < p) := by omega
  rw [this, at_take]
  constructor
  · rintro ⟨h1, h2⟩
    refine ⟨h1, ?_, fun z => h2 (.inl z)⟩
    exact Classical.byContradiction fun z => h2 (.inr z)
  · rintro ⟨h1, h2, h3⟩
    exact ⟨h1, fun z => z.elim h3 fun z => z h2⟩
theorem loadsF_len (ss : List DStop) (rs : List DReq) : (loadsF ss rs).length = ss.length + 1 := by unfold loadsF; rw [List.length_map, List.length_range]
theorem loadsF_at {ss : List DStop} {rs : List DReq} {j : Nat} (h : j ≤ ss.length) : (loadsF ss rs).getD j (0, 0, 0) = afterF ss rs j := by
  unfold loadsF
  rw [List.getD, List.getElem?_map, List.getElem?_range (by omega)]; rfl
theorem after_bd {ss : List DStop} {rs : List DReq} (h : RightS ss rs) (j : Nat) : (0 ≤ (afterF ss rs j).1 ∧ (afterF ss rs j).1 ≤ 60 * rs.length) ∧ (0 ≤ (afterF ss rs j).2.1 ∧ (afterF ss rs j).2.1 ≤ 60 * rs.length) ∧ 0 ≤ (afterF ss rs j).2.2 ∧ (afterF ss rs j).2.2 ≤ 60 * rs.length :=
  sumTo_bd fun i _ => after_part h j i
theorem sumTo_upd {f g : Nat → DLoad} {k : Nat} : ∀ {n : Nat}, k < n → (∀ i, i < n → i ≠ k → f i = g i) → g k = (0, 0, 0) → sumTo f n = add3 (sumTo g n) (f k)
  | 0, h, _, _ => by omega
  | n + 1, h, hn, hg => by
    unfold sumTo
    by_cases c : k = n
    · subst c
      rw [hg, add3_zero, sumTo_congr (n := k) fun i hi => hn i (by omega) (by omega)]
    · rw [sumTo_upd (n := n) (by omega) (fun i hi => hn i (by omega)) hg, hn n (by omega) (fun e => c e.symm), add3_assoc, add3_comm (f k), ← add3_assoc]
theorem sumTo_zero {f : Nat → DLoad} : ∀ {n : Nat}, (∀ i, i < n → f i = (0, 0, 0)) → sumTo f n = (0, 0, 0)
  | 0, _ => rfl
  | n + 1, h => by unfold sumTo; rw [sumTo_zero (n := n) (fun i hi => h i (by omega)), h n (by omega)]; rfl
/-- Nobody else gets in or out at a stop. -/
theorem in_other {ss : List DStop} {rs : List DReq} (h : RightS ss rs) {j : Nat} (hj : j < ss.length) {k : Int} (hk : k ≠ (ss.getD j dStop).1) : inB ss k ((j + 1 : Nat) : Int) = inB ss k j := by
  rw [Bool.eq_iff_iff, inB_mem, inB_mem, take_next hj]
  have : ∀ p, (k, p) ∈ ss.take j ++ [ss.getD j dStop] ↔ (k, p) ∈ ss.take j := fun p => by
    rw [List.mem_append, List.mem_singleton]
    exact ⟨fun q => q.elim id fun e => (hk (congrArg Prod.fst e)).elim, .inl⟩
  rw [this, this]
theorem in_pick {ss : List DStop} {rs : List DReq} (h : RightS ss rs) {j : Nat} (hj : j < ss.length) (hp : (ss.getD j dStop).2 = true) : inB ss (ss.getD j dStop).1 j = false ∧ inB ss (ss.getD j dStop).1 ((j + 1 : Nat) : Int) = true := by
  have h1 := h.at_eq hj
  have h2 := h.drop_after hj hp
  have e : ((ss.getD j dStop).1, true) = ss.getD j dStop := by rw [← hp]
  refine ⟨?_, ?_⟩
  · rw [← Bool.not_eq_true, inB_iff, e]; omega
  · rw [inB_iff, e]; omega
theorem in_drop {ss : List DStop} {rs : List DReq} (h : RightS ss rs) {j : Nat} (hj : j < ss.length) (hp : (ss.getD j dStop).2 = false) : inB ss (ss.getD j dStop).1 j = true ∧ inB ss (ss.getD j dStop).1 ((j + 1 : Nat) : Int) = false := by
  have h1 := h.at_eq hj
  have e : ((ss.getD j dStop).1, false) = ss.getD j dStop := by rw [← hp]
  refine ⟨?_, ?_⟩
  · rw [inB_iff, e]
    refine ⟨?_, by omega⟩
    rcases atF_spec ((ss.getD j dStop).1, true) ss with ⟨q, _⟩ | ⟨i, q1, q2, q3, _⟩
    · omega
    · have q4 := h.drop_after q1 (by rw [q3])
      rw [q3] at q4
      dsimp only at q4
      rw [e, h1] at q4
      omega
  · rw [← Bool.not_eq_true, inB_iff, e]; omega
theorem step_pick {ss : List DStop} {rs : List DReq} (h : RightS ss rs) {j : Nat} (hj : j < ss.length) (hp : (ss.getD j dStop).2 = true) : afterF ss rs ((j + 1 : Nat) : Int) = add3 (afterF ss rs j) (rl rs (ss.getD j dStop).1) := by
  have hr := (h.2 j hj).1
  obtain ⟨h1, h2⟩ := in_pick h hj hp
  have hk : ((ss.getD j dStop).1.toNat : Int) = (ss.getD j dStop).1 := Int.toNat_of_nonneg hr.1
  unfold afterF
  rw [sumTo_upd (k := (ss.getD j dStop).1.toNat) (g := fun i => if inB ss i j = true then rl rs i else (0, 0, 0)) (by omega) (fun i hi hne => by rw [in_other h hj (by omega)]) (by rw [hk, h1]; rfl)]
  rw [hk, h2, if_pos rfl]
theorem step_drop {ss : List DStop} {rs : List DReq} (h : RightS ss rs) {j : Nat} (hj : j < ss.length) (hp : (ss.getD j dStop).2 = false) : afterF ss rs j = add3 (afterF ss rs ((j + 1 : Nat) : Int)) (rl rs (ss.getD j dStop).1) := by
  have hr := (h.2 j hj).1
  obtain ⟨h1, h2⟩ := in_drop h hj hp
  have hk : ((ss.getD j dStop).1.toNat : Int) = (ss.getD j dStop).1 := Int.toNat_of_nonneg hr.1
  unfold afterF
  rw [sumTo_upd (k := (ss.getD j dStop).1.toNat) (g := fun i => if inB ss i ((j + 1 : Nat) : Int) = true then rl rs i else (0, 0, 0)) (by omega) (fun i hi hne => by rw [in_other h hj (by omega)]) (by rw [hk, h2]; rfl)]
  rw [hk, h1, if_pos rfl]
theorem last_zero {ss : List DStop} {rs : List DReq} : afterF ss rs ss.length = (0, 0, 0) := by
  unfold afterF
  refine sumTo_zero fun i _ => ?_
  rw [if_neg]
  rw [inB_iff]
  have := at_lt (x := ((i : Int), false)) (ss := ss)
  omega
/-- Who is dropped and not picked up. -/
def begB (ss : List DStop) (s : DStop) : Bool := !s.2 && decide (atF (s.1, true) ss < 0)
def begK (ss : List DStop) (n : Nat) : List Int := ((ss.take n).filter (begB ss)).map (·.1)
theorem sumK_snoc (rs : List DReq) (k : Int) : ∀ ks : List Int, sumK rs (ks ++ [k]) = add3 (sumK rs ks) (rl rs k)
  | [] => by show add3 (rl rs k) (0, 0, 0) = add3 (0, 0, 0) (rl rs k); exact add3_comm _ _
  | p :: r => by rw [List.cons_append, sumK, sumK_snoc rs k r, sumK, add3_assoc]
theorem begK_next {ss : List DStop} {n : Nat} (h : n < ss.length) : begK ss (n + 1) = if begB ss (ss.getD n dStop) = true then begK ss n ++ [(ss.getD n dStop).1] else begK ss n := by
  unfold begK
  rw [take_next h, List.filter_append, List.map_append]
  generalize ss.getD n dStop = s
  rw [List.filter_cons, List.filter_nil]
  split
  · rfl
  · exact List.append_nil _
theorem RightS.nodup {ss : List DStop} {rs : List DReq} (h : RightS ss rs) : ss.Nodup := by
  rw [List.nodup_iff_pairwise_ne, List.pairwise_iff_getElem]
  intro i j hi hj hij e
  have := h.inj hi hj (by rw [getD_get hi, getD_get hj]; exact e)
  omega
theorem map_nodup : ∀ {l : List DStop}, l.Nodup → (∀ s ∈ l, s.2 = false) → (l.map (·.1)).Nodup
  | [], _, _ => by simp
  | s :: r, h, hp => by
    rw [List.nodup_cons] at h
    rw [List.map_cons, List.nodup_cons]
    refine ⟨fun q => ?_, map_nodup h.2 fun s hs => hp s (.tail _ hs)⟩
    obtain ⟨t, ht, e⟩ := List.mem_map.1 q
    have h1 := hp s (.head _)
    have h2 := hp t (.tail _ ht)
    have : t = s := Prod.ext e (by rw [h1, h2])
    exact h.1 (this ▸ ht)
theorem beg_load {ss : List DStop} {rs : List DReq} (h : RightS ss rs) : sumK rs (begK ss ss.length) = afterF ss rs 0 := by
  have hm : ∀ k, k ∈ begK ss ss.length ↔ inB ss k (0 : Nat) = true := fun k => by
    unfold begK
    rw [List.take_length, List.mem_map, inB_iff]
    constructor
    · rintro ⟨⟨a, p⟩, hs, rfl⟩
      rw [List.mem_filter] at hs
      unfold begB at hs
      simp only [Bool.and_eq_true, Bool.not_eq_true', decide_eq_true_eq] at hs
      obtain ⟨h1, h2, h3⟩ := hs
      subst h2
      have := at_mem.2 h1
      exact ⟨by omega, by omega⟩
    · rintro ⟨h1, h2⟩
      refine ⟨(k, false), List.mem_filter.2 ⟨at_mem.1 (by omega), ?_⟩, rfl⟩
      unfold begB
      simp only [Bool.not_false, Bool.true_and, decide_eq_true_eq]
      omega
  have hn : (begK ss ss.length).Nodup := by
    unfold begK
    rw [List.take_length]
    refine map_nodup (h.nodup.sublist List.filter_sublist) fun s hs => ?_
    have := (List.mem_filter.1 hs).2
    unfold begB at this
    simp only [Bool.and_eq_true, Bool.not_eq_true'] at this
    exact this.1
  rw [sumK_to (n := rs.length) hn fun k hk => (h.in_req ((hm k).1 hk)).1]
  show _ = afterF ss rs (0 : Nat)
  unfold afterF
  refine sumTo_congr fun i _ => ?_
  simp only [hm]
theorem sumK_bd {rs : List DReq} : ∀ {ks : List Int}, (∀ k ∈ ks, placesB (rl rs k) = true) → (0 ≤ (sumK rs ks).1 ∧ (sumK rs ks).1 ≤ 60 * ks.length) ∧ (0 ≤ (sumK rs ks).2.1 ∧ (sumK rs ks).2.1 ≤ 60 * ks.length) ∧ 0 ≤ (sumK rs ks).2.2 ∧ (sumK rs ks).2.2 ≤ 60 * ks.length
  | [], _ => by simp [sumK]
  | k :: r, h => by
    have h1 := sumK_bd (ks := r) fun k hk => h k (.tail _ hk)
    have h2 := placesB_iff.1 (h k (.head _))
    unfold sumK add3
    simp only [List.length_cons]
    omega
theorem beg_bd {ss : List DStop} {rs : List DReq} (h : RightS ss rs) {n : Nat} (hn : n ≤ ss.length) : (0 ≤ (sumK rs (begK ss n)).1 ∧ (sumK rs (begK ss n)).1 ≤ 60 * n) ∧ (0 ≤ (sumK rs (begK ss n)).2.1 ∧ (sumK rs (begK ss n)).2.1 ≤ 60 * n) ∧ 0 ≤ (sumK rs (begK ss n)).2.2 ∧ (sumK rs (begK ss n)).2.2 ≤ 60 * n := by
  have h1 := sumK_bd (rs := rs) (ks := begK ss n) fun k hk => by
    unfold begK at hk
    obtain ⟨s, hs, rfl⟩ := List.mem_map.1 hk
    have hs := List.mem_of_mem_take (List.mem_filter.1 hs).1
    obtain ⟨i, hi, rfl⟩ := List.getElem_of_mem hs
    have := (h.2 i hi).2.1
    rwa [getD_get hi] at this
  have h2 : (begK ss n).length ≤ n := by
    unfold begK
    rw [List.length_map]
    have := List.length_filter_le (begB ss) (ss.take n)
    rw [List.length_take] at this
    omega
  omega
end Go.Proofs.Ytehdnoajohlkgaa
