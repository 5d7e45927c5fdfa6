/- The plain laws of layer 17 (load): one request less, one more; no program in sight. -/
import Derived.Test.YtehdnoajohlkgaaPlainLoad2
namespace Go.Proofs.Ytehdnoajohlkgaa
set_option linter.unusedSimpArgs false
set_option linter.unusedVariables false
theorem mem_right {ss : List DStop} {rs : List DReq} (h : RightS ss rs) {s : DStop} (hs : s ∈ ss) : (0 ≤ s.1 ∧ s.1 < rs.length) ∧ placesB (reqLoad (rs.getD s.1.toNat dReq)) = true := by
  obtain ⟨i, hi, rfl⟩ := List.getElem_of_mem hs
  have := h.2 i hi
  unfold OkAt at this
  rw [getD_get hi] at this
  exact ⟨this.1, this.2.1⟩
/-- What Fits says. -/
theorem fits_zero {c : DLoad} {ss : List DStop} {rs : List DReq} : (fitsF c ss rs).2 = 0 ↔ (rightS ss rs = true ∧ placesB c = true) ∧ ∀ j, j ≤ ss.length → overB (afterF ss rs (j : Nat)) c = false := by
  unfold fitsF
  by_cases h : rightS ss rs = true ∧ placesB c = true
  · rw [if_pos h]
    have hat : ∀ j, j ≤ ss.length → (loadsF ss rs).getD j (0, 0, 0) = afterF ss rs (j : Nat) := fun j hj => loadsF_at hj
    have hlen := loadsF_len ss rs
    constructor
    · intro q
      refine ⟨h, fun j hj => ?_⟩
      rw [Bool.eq_false_iff]
      intro z
      have : overF c (loadsF ss rs) ≠ -1 := fun e => by
        unfold overF at e
        have h1 : ∀ (l : List DLoad) (i : Nat), i < l.length → overB (l.getD i (0, 0, 0)) c = true → idxF (fun x => overB x c) l ≠ -1 := by
          intro l
          induction l with
          | nil => intro i hi; simp at hi
          | cons x r ih =>
            intro i hi hx
            unfold idxF
            split
            · omega
            · rename_i hn
              cases i with
              | zero => simp at hx; exact (hn hx).elim
              | succ i =>
                have := ih i (by simpa using hi) (by simpa using hx)
                split
                · exfalso
                  have h2 : ∀ l : List DLoad, idxF (fun x => overB x c) l < 0 → idxF (fun x => overB x c) l = -1 := by
                    intro l
                    induction l with
                    | nil => intro _; rfl
                    | cons x r ih =>
                      unfold idxF
                      split
                      · intro q; omega
                      · split
                        · intro _; rfl
                        · intro q; omega
                  exact this (h2 r (by assumption))
                · omega
        exact h1 _ j (by omega) (by rw [hat j hj]; exact z) e
      split at q
      · cases q
      · rename_i hneg
        have h2 : ∀ l : List DLoad, idxF (fun x => overB x c) l < 0 → idxF (fun x => overB x c) l = -1 := by
          intro l
          induction l with
          | nil => intro _; rfl
          | cons x r ih =>
            unfold idxF
            split
            · intro q; omega
            · split
              · intro _; rfl
              · intro q; omega
        exact this (h2 _ (by unfold overF at hneg; omega))
    · rintro ⟨_, q⟩
      have : overF c (loadsF ss rs) = -1 := idxF_none (d := (0, 0, 0)) fun j hj => by rw [hat j (by omega)]; exact q j (by omega)
      rw [if_neg (by omega)]
  · rw [if_neg h]
    constructor
    · intro q; cases q
    · rintro ⟨q, _⟩; exact (h q).elim
theorem fits_err {c : DLoad} {ss : List DStop} {rs : List DReq} (h : ¬ (rightS ss rs = true ∧ placesB c = true)) : (fitsF c ss rs).2 = 1 := by
  unfold fitsF; rw [if_neg h]

/-! One less. -/
def keepB (k : Int) (s : DStop) : Bool := decide (s.1 ≠ k)
def lessF (ss : List DStop) (k : Int) (n : Nat) : List DStop := (ss.take n).filter (keepB k)
def atK (ss : List DStop) (k : Int) : Nat → List Int
  | 0 => [0]
  | n + 1 => if keepB k (ss.getD n dStop) = true then atK ss k n ++ [((n + 1 : Nat) : Int)] else atK ss k n
theorem lessF_next {ss : List DStop} {k : Int} {n : Nat} (h : n < ss.length) : lessF ss k (n + 1) = if keepB k (ss.getD n dStop) = true then lessF ss k n ++ [ss.getD n dStop] else lessF ss k n := by
  unfold lessF
  rw [take_next h, List.filter_append]
  generalize ss.getD n dStop = s
  rw [List.filter_cons, List.filter_nil]
  split
  · rfl
  · exact List.append_nil _
theorem at_spec {ss : List DStop} {k : Int} : ∀ {n : Nat}, n ≤ ss.length → (atK ss k n).length = (lessF ss k n).length + 1 ∧ ∀ j, j < (atK ss k n).length → ∃ p : Nat, (atK ss k n).getD j 0 = p ∧ p ≤ n ∧ (lessF ss k n).take j = (ss.take p).filter (keepB k)
  | 0, _ => ⟨rfl, fun j hj => ⟨0, by
      have : j = 0 := by simp [atK] at hj; omega
      subst this; rfl, Nat.le_refl _, by simp [lessF]⟩⟩
  | n + 1, h => by
    obtain ⟨h1, h2⟩ := at_spec (ss := ss) (k := k) (n := n) (by omega)
    rw [lessF_next (by omega), atK]
    by_cases c : keepB k (ss.getD n dStop) = true
    · rw [if_pos c, if_pos c]
      refine ⟨by simp [h1], fun j hj => ?_⟩
      rw [List.length_append, List.length_singleton] at hj
      by_cases e : j < (atK ss k n).length
      · obtain ⟨p, q1, q2, q3⟩ := h2 j e
        refine ⟨p, ?_, by omega, ?_⟩
        · rw [List.getD, List.getElem?_append_left e]; exact q1
        · rw [List.take_append_of_le_length (by omega)]; exact q3
      · obtain rfl : j = (atK ss k n).length := by omega
        refine ⟨n + 1, ?_, Nat.le_refl _, ?_⟩
        · simp [List.getD]
        · rw [List.take_of_length_le (by simp [h1])]
          have := lessF_next (ss := ss) (k := k) (n := n) (by omega)
          rw [if_pos c] at this
          rw [← this]; rfl
    · rw [if_neg c, if_neg c]
      refine ⟨h1, fun j hj => ?_⟩
      obtain ⟨p, q1, q2, q3⟩ := h2 j hj
      exact ⟨p, q1, by omega, q3⟩
theorem right_less {ss : List DStop} {rs : List DReq} (h : RightS ss rs) (k : Int) : RightS (ss.filter (keepB k)) rs := by
  have hle := List.length_filter_le (keepB k) ss
  refine ⟨⟨by have := h.1.1; omega, h.1.2⟩, fun i hi => ?_⟩
  have hmem := List.mem_filter.1 (getD_mem hi)
  have hr := mem_right h hmem.1
  have hn : (ss.filter (keepB k)).Nodup := h.nodup.sublist List.filter_sublist
  have hsp : ss.filter (keepB k) = (ss.filter (keepB k)).take i ++ (ss.filter (keepB k)).getD i dStop :: (ss.filter (keepB k)).drop (i + 1) := by
    rw [getD_get hi]; simp
  refine ⟨hr.1, hr.2, ?_, fun hp => ?_⟩
  · rw [hsp, List.nodup_append] at hn
    intro q
    exact hn.2.2 _ q _ (.head _) rfl
  · generalize hL : (ss.filter (keepB k)).drop (i + 1) = R at hsp ⊢
    generalize (ss.filter (keepB k)).getD i dStop = s at hsp hp hmem ⊢
    obtain ⟨l1, l2, e1, e2, e3⟩ := List.filter_eq_append_iff.1 hsp
    obtain ⟨u, v, e4, _, _, e5⟩ := List.filter_eq_cons_iff.1 e3
    have hss : ss = (l1 ++ u) ++ s :: v := by rw [e1, e4, List.append_assoc]
    have hm : (l1 ++ u).length < ss.length := by rw [hss]; simp
    have hg : ss.getD (l1 ++ u).length dStop = s := by rw [hss]; simp [List.getD]
    have hd : ss.drop ((l1 ++ u).length + 1) = v := by rw [hss, ← List.drop_drop, List.drop_left]; rfl
    have := (h.2 _ hm).2.2.2 (by rw [hg]; exact hp)
    rw [hg, hd] at this
    rw [← e5, List.mem_filter]
    refine ⟨this, ?_⟩
    have := hmem.2
    unfold keepB at this ⊢
    exact this
theorem in_less {ss : List DStop} {k : Int} {j p : Nat} (h : (ss.filter (keepB k)).take j = (ss.take p).filter (keepB k)) (x : Int) : inB (ss.filter (keepB k)) x j = (decide (x ≠ k) && inB ss x p) := by
  rw [Bool.eq_iff_iff, Bool.and_eq_true, inB_mem, inB_mem, h, decide_eq_true_iff]
  have e : ∀ (l : List DStop) q, (x, q) ∈ l.filter (keepB k) ↔ (x, q) ∈ l ∧ x ≠ k := fun l q => by rw [List.mem_filter]; unfold keepB; simp
  rw [e, e, e, e]
  by_cases c : x = k
  · simp [c]
  · simp [c]
theorem less_load {ss : List DStop} {rs : List DReq} {k : Nat} (hk : k < rs.length) {j p : Nat} (h : (ss.filter (keepB k)).take j = (ss.take p).filter (keepB k)) :
    afterF ss rs p = add3 (afterF (ss.filter (keepB k)) rs j) (if inB ss k p = true then rl rs k else (0, 0, 0)) := by
  unfold afterF
  refine sumTo_upd (k := k) hk (fun i hi hne => ?_) ?_
  · have := in_less h (i : Int)
    rw [this, decide_eq_true (by omega), Bool.true_and]
  · have := in_less h (k : Int)
    rw [this, decide_eq_false (by simp)]; rfl

/-! One more. -/
def betw (ss : List DStop) (at_ : Nat) (s : DStop) : List DStop := ss.take at_ ++ s :: ss.drop at_
theorem betw_len {ss : List DStop} {m : Nat} (h : m ≤ ss.length) (s : DStop) : (betw ss m s).length = ss.length + 1 := by
  unfold betw; rw [List.length_append, List.length_take, List.length_cons, List.length_drop]; omega
theorem betw_mem {ss : List DStop} {m : Nat} {s x : DStop} : x ∈ betw ss m s ↔ x = s ∨ x ∈ ss := by
  unfold betw
  rw [List.mem_append, List.mem_cons]
  have : x ∈ ss ↔ x ∈ ss.take m ∨ x ∈ ss.drop m := by rw [← List.mem_append, List.take_append_drop]
  rw [this]
  constructor
  · rintro (h | h | h)
    · exact .inr (.inl h)
    · exact .inl h
    · exact .inr (.inr h)
  · rintro (h | h | h)
    · exact .inr (.inl h)
    · exact .inl h
    · exact .inr (.inr h)
theorem betw_low {ss : List DStop} {m i : Nat} (h : m ≤ ss.length) (hi : i ≤ m) (s : DStop) : (betw ss m s).take i = ss.take i := by
  unfold betw
  rw [List.take_append_of_le_length (by rw [List.length_take]; omega), List.take_take]; congr 1; omega
theorem betw_high {ss : List DStop} {m i : Nat} (h : m ≤ ss.length) (hi : m < i) {s x : DStop} : x ∈ (betw ss m s).take i ↔ x = s ∨ x ∈ ss.take (i - 1) := by
  have e1 : (betw ss m s).take i = ss.take m ++ s :: (ss.drop m).take (i - 1 - m) := by
    unfold betw
    rw [List.take_append]
    rw [List.length_take, List.take_take, show min i m = m by omega, show i - min m ss.length = (i - 1 - m) + 1 by omega]
    rfl
  have e2 : ss.take (i - 1) = ss.take m ++ (ss.drop m).take (i - 1 - m) := by
    rw [show i - 1 = m + (i - 1 - m) by omega, List.take_add]; congr 2; omega
  rw [e1, e2, List.mem_append, List.mem_cons, List.mem_append]
  constructor
  · rintro (h | h | h)
    · exact .inr (.inl h)
    · exact .inl h
    · exact .inr (.inr h)
  · rintro (h | h | h)
    · exact .inr (.inl h)
    · exact .inl h
    · exact .inr (.inr h)
def withF (ss : List DStop) (k : Int) (a b : Nat) : List DStop := betw (betw ss b (k, false)) a (k, true)
def back (a b i : Nat) : Nat := if i ≤ a then i else if i ≤ b + 1 then i - 1 else i - 2
theorem with_len {ss : List DStop} {a b : Nat} (hab : a ≤ b) (hb : b ≤ ss.length) (k : Int) : (withF ss k a b).length = ss.length + 2 := by
  unfold withF; rw [betw_len (by rw [betw_len hb]; omega), betw_len hb]
theorem with_other {ss : List DStop} {a b i : Nat} (hab : a ≤ b) (hb : b ≤ ss.length) {k x : Int} {p : Bool} (hx : x ≠ k) : (x, p) ∈ (withF ss k a b).take i ↔ (x, p) ∈ ss.take (back a b i) := by
  have hl := betw_len hb (k, false)
  have hne : ∀ q, ((x, p) : DStop) ≠ (k, q) := fun q e => hx (congrArg Prod.fst e)
  unfold withF back
  by_cases c : i ≤ a
  · rw [betw_low (by omega) c, betw_low hb (by omega), if_pos c]
  · rw [betw_high (by omega) (by omega), if_neg c]
    by_cases d : i ≤ b + 1
    · rw [betw_low hb (by omega), if_pos d]
      exact ⟨fun q => q.elim (fun e => (hne _ e).elim) id, .inr⟩
    · rw [betw_high hb (by omega), if_neg d, show i - 1 - 1 = i - 2 by omega]
      exact ⟨fun q => q.elim (fun e => (hne _ e).elim) fun q => q.elim (fun e => (hne _ e).elim) id, fun q => .inr (.inr q)⟩
theorem with_mem {ss : List DStop} {a b : Nat} {k x : Int} {p : Bool} (hx : x ≠ k) : (x, p) ∈ withF ss k a b ↔ (x, p) ∈ ss := by
  have hne : ∀ q, ((x, p) : DStop) ≠ (k, q) := fun q e => hx (congrArg Prod.fst e)
  unfold withF
  rw [betw_mem, betw_mem]
  exact ⟨fun q => q.elim (fun e => (hne _ e).elim) fun q => q.elim (fun e => (hne _ e).elim) id, fun q => .inr (.inr q)⟩
theorem in_with {ss : List DStop} {a b i : Nat} (hab : a ≤ b) (hb : b ≤ ss.length) {k x : Int} (hx : x ≠ k) : inB (withF ss k a b) x i = inB ss x (back a b i : Nat) := by
  rw [Bool.eq_iff_iff, inB_mem, inB_mem, with_other hab hb hx, with_other hab hb hx, with_mem hx, with_mem hx]
theorem in_with_self {ss : List DStop} {a b i : Nat} (hab : a ≤ b) (hb : b ≤ ss.length) {k : Int} (hk : ∀ s ∈ ss, s.1 ≠ k) : inB (withF ss k a b) k i = decide (a < i ∧ i ≤ b + 1) := by
  have hl := betw_len hb (k, false)
  have hn : ∀ p, ((k, p) : DStop) ∉ ss := fun p q => hk _ q rfl
  have hnt : ∀ p m, ((k, p) : DStop) ∉ ss.take m := fun p m q => hn p (List.mem_of_mem_take q)
  rw [Bool.eq_iff_iff, inB_mem, decide_eq_true_iff]
  have h1 : ((k, true) : DStop) ∈ (withF ss k a b).take i ↔ a < i := by
    unfold withF
    by_cases c : i ≤ a
    · rw [betw_low (by omega) c, betw_low hb (by omega)]
      exact ⟨fun q => (hnt _ _ q).elim, fun q => by omega⟩
    · rw [betw_high (by omega) (by omega)]
      exact ⟨fun _ => by omega, fun _ => .inl rfl⟩
  have h2 : ((k, true) : DStop) ∈ withF ss k a b := betw_mem.2 (.inl rfl)
  have h3 : ((k, false) : DStop) ∈ withF ss k a b := betw_mem.2 (.inr (betw_mem.2 (.inl rfl)))
  have h4 : ((k, false) : DStop) ∈ (withF ss k a b).take i ↔ b + 1 < i := by
    unfold withF
    by_cases c : i ≤ a
    · rw [betw_low (by omega) c, betw_low hb (by omega)]
      exact ⟨fun q => (hnt _ _ q).elim, fun q => by omega⟩
    · rw [betw_high (by omega) (by omega)]
      by_cases d : i ≤ b + 1
      · rw [betw_low hb (by omega)]
        exact ⟨fun q => q.elim (fun e => by simp at e) fun q => (hnt _ _ q).elim, fun q => by omega⟩
      · rw [betw_high hb (by omega)]
        exact ⟨fun _ => by omega, fun _ => .inr (.inl rfl)⟩
  rw [h1, h4]
  constructor
  · rintro ⟨q1, _, q2⟩
    rcases q1 with q1 | q1
    · omega
    · exact (q1 h2).elim
  · rintro ⟨q1, q2⟩
    exact ⟨.inl q1, h3, by omega⟩
theorem with_load {ss : List DStop} {rs : List DReq} (h : RightS ss rs) {a b i : Nat} (hab : a ≤ b) (hb : b ≤ ss.length) (r : DReq) :
    afterF (withF ss rs.length a b) (rs ++ [r]) i = add3 (afterF ss rs (back a b i : Nat)) (if a < i ∧ i ≤ b + 1 then reqLoad r else (0, 0, 0)) := by
  have hk : ∀ s ∈ ss, s.1 ≠ (rs.length : Int) := fun s hs => by have := (mem_right h hs).1; omega
  have hself := in_with_self hab hb (i := i) hk
  unfold afterF
  rw [List.length_append, List.length_singleton]
  show add3 (sumTo _ rs.length) _ = _
  congr 1
  · refine sumTo_congr fun j hj => ?_
    rw [in_with hab hb (by omega)]
    have : rl (rs ++ [r]) (j : Int) = rl rs j := by
      unfold rl
      rw [Int.toNat_natCast, List.getD, List.getD, List.getElem?_append_left hj]
    rw [this]
  · dsimp only
    rw [hself]
    have : rl (rs ++ [r]) (rs.length : Int) = reqLoad r := by
      unfold rl
      rw [Int.toNat_natCast, List.getD, List.getElem?_append_right (Nat.le_refl _)]; simp
    rw [this]
    simp only [decide_eq_true_eq]
theorem with_req {ss : List DStop} {rs : List DReq} {a b : Nat} {r : DReq} (h : RightS (withF ss rs.length a b) (rs ++ [r])) : placesB (reqLoad r) = true := by
  have h3 : (((rs.length : Nat) : Int), true) ∈ withF ss rs.length a b := betw_mem.2 (.inl rfl)
  have := (mem_right h h3).2
  rw [Int.toNat_natCast, List.getD, List.getElem?_append_right (Nat.le_refl _)] at this
  simpa using this
theorem with_fits {ss : List DStop} {rs : List DReq} {a b : Nat} {r : DReq} {c : DLoad} (hr : RightS ss rs) (hw : RightS (withF ss rs.length a b) (rs ++ [r])) (hab : a ≤ b) (hb : b ≤ ss.length) (hf : (fitsF c ss rs).2 = 0) :
    (fitsF (add3 c (reqLoad r)) (withF ss rs.length a b) (rs ++ [r])).2 = 0 ∨ (fitsF (add3 c (reqLoad r)) (withF ss rs.length a b) (rs ++ [r])).2 = 1 := by
  obtain ⟨⟨h1, h2⟩, h3⟩ := fits_zero.1 hf
  by_cases hp : placesB (add3 c (reqLoad r)) = true
  · left
    refine fits_zero.2 ⟨⟨decide_eq_true hw, hp⟩, fun j hj => ?_⟩
    rw [with_len hab hb] at hj
    have hbk : back a b j ≤ ss.length := by unfold back; split; omega; split <;> omega
    have := h3 _ hbk
    rw [with_load hr hab hb]
    have hq := placesB_iff.1 (with_req hw)
    generalize afterF ss rs (back a b j : Nat) = A at this ⊢
    generalize reqLoad r = R at hq ⊢
    unfold overB at this ⊢
    simp only [Bool.or_eq_false_iff, decide_eq_false_iff_not] at this ⊢
    unfold add3
    split <;> dsimp only <;> omega
  · right
    exact fits_err fun q => hp q.2
theorem less_fits {ss : List DStop} {rs : List DReq} {c : DLoad} {k : Nat} (hr : RightS ss rs) (hk : k < rs.length) (hf : (fitsF c ss rs).2 = 0) : (fitsF c (ss.filter (keepB k)) rs).2 = 0 := by
  obtain ⟨⟨h1, h2⟩, h3⟩ := fits_zero.1 hf
  refine fits_zero.2 ⟨⟨decide_eq_true (right_less hr k), h2⟩, fun j hj => ?_⟩
  obtain ⟨e1, e2⟩ := at_spec (ss := ss) (k := (k : Int)) (Nat.le_refl _)
  have e3 : lessF ss k ss.length = ss.filter (keepB k) := by unfold lessF; rw [List.take_length]
  rw [e3] at e1 e2
  obtain ⟨p, _, q2, q3⟩ := e2 j (by omega)
  have h4 := h3 p q2
  rw [less_load hk q3] at h4
  have h5 := placesB_iff.1 (after_part hr p k)
  generalize (if inB ss k p = true then rl rs k else (0, 0, 0)) = R at h4 h5
  generalize afterF (ss.filter (keepB k)) rs j = A at h4 ⊢
  unfold overB add3 at h4
  unfold overB
  simp only [Bool.or_eq_false_iff, decide_eq_false_iff_not] at h4 ⊢
  omega
end Go.Proofs.Ytehdnoajohlkgaa
