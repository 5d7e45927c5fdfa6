/- The plain mathematics of layer 22 (refuse): sets that block all options, the first one in order, masks; no program in sight. -/
import Init
namespace Go.Proofs.Ytbbjopgneophnaa
set_option linter.unusedSimpArgs false
set_option linter.unusedVariables false
/-- The index of the first element for which p holds, or -1. -/
def idxF {α : Type} (p : α → Bool) : List α → Int
  | [] => -1
  | x :: r => if p x then 0 else if idxF p r < 0 then -1 else idxF p r + 1
theorem idxF_at {α : Type} {p : α → Bool} {d : α} : ∀ {l : List α} {k : Nat}, k < l.length → (∀ j, j < k → p (l.getD j d) = false) → p (l.getD k d) = true → idxF p l = k
  | [], k, h, _, _ => by simp at h
  | x :: r, 0, _, _, h => by simp at h; simp [idxF, h]
  | x :: r, k + 1, h, hg, hb => by
    have h0 := hg 0 (by omega)
    simp at h0
    have h1 := idxF_at (p := p) (d := d) (l := r) (k := k) (by simpa using h) (fun j hj => by simpa using hg (j + 1) (by omega)) (by simpa using hb)
    simp [idxF, h0, h1]; omega
theorem idxF_none {α : Type} {p : α → Bool} {d : α} : ∀ {l : List α}, (∀ j, j < l.length → p (l.getD j d) = false) → idxF p l = -1
  | [], _ => rfl
  | x :: r, hg => by
    have h0 := hg 0 (by simp)
    simp at h0
    have h1 := idxF_none (p := p) (d := d) (l := r) (fun j hj => by simpa using hg (j + 1) (by simpa using hj))
    simp [idxF, h0, h1]
theorem idxF_any {α : Type} (p : α → Bool) : ∀ l : List α, 0 ≤ idxF p l ↔ l.any p = true
  | [] => by simp [idxF]
  | x :: r => by
    have ih := idxF_any p r
    unfold idxF
    rw [List.any_cons, Bool.or_eq_true, ← ih]
    cases h : p x <;> simp
    split <;> omega
theorem idxF_range {α : Type} (p : α → Bool) : ∀ l : List α, -1 ≤ idxF p l ∧ idxF p l < l.length ∨ idxF p l = -1
  | [] => .inr rfl
  | x :: r => by
    have ih := idxF_range p r
    unfold idxF
    simp only [List.length_cons]
    split
    · left; omega
    · split
      · right; rfl
      · left; omega
theorem idxF_hit {α : Type} {p : α → Bool} {d : α} : ∀ {l : List α}, 0 ≤ idxF p l → idxF p l < l.length ∧ p (l.getD (idxF p l).toNat d) = true
  | [], h => by simp [idxF] at h
  | x :: r, h => by
    have ih := idxF_hit (p := p) (d := d) (l := r)
    unfold idxF at h ⊢
    by_cases hx : p x = true
    · simp [hx]
    · simp only [hx, if_false, Bool.false_eq_true] at h ⊢
      by_cases hn : idxF p r < 0
      · simp [hn] at h
      · rw [if_neg hn]
        obtain ⟨h1, h2⟩ := ih (by omega)
        refine ⟨by simp; omega, ?_⟩
        rw [show (idxF p r + 1).toNat = (idxF p r).toNat + 1 by omega]
        simpa using h2
theorem idxF_congr {α : Type} {p q : α → Bool} : ∀ {l : List α}, (∀ x ∈ l, p x = q x) → idxF p l = idxF q l
  | [], _ => rfl
  | x :: r, h => by
    unfold idxF
    rw [h x (by simp), idxF_congr fun y hy => h y (by simp [hy])]
theorem idxF_map {α β : Type} (f : α → β) (p : β → Bool) : ∀ l : List α, idxF p (l.map f) = idxF (fun x => p (f x)) l
  | [] => rfl
  | x :: r => by unfold idxF; rw [List.map_cons]; show (if p (f x) = true then _ else _) = _; rw [idxF_map f p r]

/-- Does a set block all options? -/
def blkS (opts : List (List Int)) (s : List Int) : Bool := opts.all fun o => s.any fun i => o.contains i
/-- The numbers from a on, below b. -/
def rng (a b : Int) : List Int := (List.range (b - a).toNat).map fun (k : Nat) => a + (k : Int)
theorem rng_nil {a b : Int} (h : b ≤ a) : rng a b = [] := by
  unfold rng; rw [show (b - a).toNat = 0 by omega]; rfl
theorem rng_cons {a b : Int} (h : a < b) : rng a b = a :: rng (a + 1) b := by
  unfold rng
  rw [show (b - a).toNat = (b - (a + 1)).toNat + 1 by omega, List.range_succ_eq_map, List.map_cons, List.map_map]
  simp only [List.cons.injEq]
  refine ⟨by omega, List.map_congr_left fun k _ => ?_⟩
  simp only [Function.comp]
  omega
theorem mem_rng {a b x : Int} : x ∈ rng a b ↔ a ≤ x ∧ x < b := by
  unfold rng
  rw [List.mem_map]
  constructor
  · rintro ⟨k, hk, rfl⟩
    have := List.mem_range.1 hk
    omega
  · intro h
    exact ⟨(x - a).toNat, List.mem_range.2 (by omega), by omega⟩
/-- The first set, in order, with so many further elements, from f on, for which bl holds. -/
def findI (bl : List Int → Bool) (n : Int) : Nat → Int → List Int → Option (List Int)
  | 0, _, acc => if bl acc then some acc else none
  | m + 1, f, acc => (rng f (n - m)).findSome? fun i => findI bl n m (i + 1) (acc ++ [i])
/-- Strictly increasing, from f on, below n. -/
def Inc (n : Int) : Int → List Int → Prop
  | _, [] => True
  | f, x :: r => f ≤ x ∧ x < n ∧ Inc n (x + 1) r
theorem Inc.len {n : Int} : ∀ {l : List Int} {f : Int}, Inc n f l → l ≠ [] → f + l.length ≤ n
  | [], _, _, h => absurd rfl h
  | [x], f, ⟨h1, h2, _⟩, _ => by simp; omega
  | x :: y :: r, f, ⟨h1, h2, h3⟩, _ => by
    have := Inc.len h3 (by simp)
    simp only [List.length_cons] at this ⊢
    omega
theorem Inc.mono {n : Int} : ∀ {l : List Int} {f g : Int}, Inc n f l → g ≤ f → Inc n g l
  | [], _, _, _, _ => trivial
  | x :: r, f, g, ⟨h1, h2, h3⟩, h => ⟨by omega, h2, h3⟩
theorem Inc.mem {n : Int} : ∀ {l : List Int} {f : Int}, Inc n f l → ∀ x ∈ l, f ≤ x ∧ x < n
  | y :: r, f, ⟨h1, h2, h3⟩, x, hx => by
    rcases List.mem_cons.1 hx with rfl | hx
    · exact ⟨h1, h2⟩
    · have := h3.mem x hx; omega
/-- One list of the same length comes before another one. -/
def lexlt : List Int → List Int → Bool
  | a :: r, b :: s => if a = b then lexlt r s else decide (a < b)
  | _, _ => false
theorem findI_some {bl : List Int → Bool} {n : Int} : ∀ {m : Nat} {f : Int} {acc S : List Int}, findI bl n m f acc = some S →
    ∃ E, S = acc ++ E ∧ E.length = m ∧ Inc n f E ∧ bl S = true ∧ ∀ E', E'.length = m → Inc n f E' → bl (acc ++ E') = true → lexlt E' E = false
  | 0, f, acc, S, h => by
    unfold findI at h
    split at h
    · rename_i hb
      injection h with h; subst h
      refine ⟨[], by simp, rfl, trivial, hb, fun E' hE _ _ => ?_⟩
      obtain rfl := List.eq_nil_of_length_eq_zero hE
      rfl
    · cases h
  | m + 1, f, acc, S, h => by
    unfold findI at h
    have key : ∀ (k : Nat) (f : Int), (n - m - f).toNat = k → (rng f (n - m)).findSome? (fun i => findI bl n m (i + 1) (acc ++ [i])) = some S →
        ∃ E, S = acc ++ E ∧ E.length = m + 1 ∧ Inc n f E ∧ bl S = true ∧ ∀ E', E'.length = m + 1 → Inc n f E' → bl (acc ++ E') = true → lexlt E' E = false := by
      intro k
      induction k with
      | zero => intro f hk h; rw [rng_nil (by omega)] at h; simp at h
      | succ k ih =>
        intro f hk h
        rw [rng_cons (by omega), List.findSome?_cons] at h
        have none_case : ∀ E', findI bl n m (f + 1) (acc ++ [f]) = none → E'.length = m + 1 → Inc n f E' → bl (acc ++ E') = true → Inc n (f + 1) E' := by
          intro E' hn hl hi hb
          cases E' with
          | nil => simp at hl
          | cons x r =>
            obtain ⟨h1, h2, h3⟩ := hi
            by_cases e : x = f
            · subst e
              exfalso
              have : ∀ (m : Nat) (g : Int) (acc r : List Int), r.length = m → Inc n g r → bl (acc ++ r) = true → findI bl n m g acc ≠ none := by
                intro m
                induction m with
                | zero =>
                  intro g acc r hr hi hb hn
                  obtain rfl := List.eq_nil_of_length_eq_zero hr
                  rw [List.append_nil] at hb
                  unfold findI at hn
                  rw [if_pos hb] at hn; cases hn
                | succ m ihm =>
                  intro g acc r hr hi hb hn
                  cases r with
                  | nil => simp at hr
                  | cons y r =>
                    unfold findI at hn
                    rw [List.findSome?_eq_none_iff] at hn
                    have hl := hi.len (by simp)
                    simp only [List.length_cons] at hr hl
                    have hrm : r.length = m := by omega
                    have hy : y < n - m := by
                      obtain ⟨a1, a2, a3⟩ := hi
                      by_cases hr0 : r = []
                      · subst hr0; simp at hrm; omega
                      · have := a3.len hr0; omega
                    exact ihm (y + 1) (acc ++ [y]) r hrm hi.2.2 (by rw [List.append_assoc]; exact hb) (hn y (mem_rng.2 ⟨hi.1, hy⟩))
              exact this m (x + 1) (acc ++ [x]) r (by simpa using hl) h3 (by rw [List.append_assoc]; exact hb) hn
            · exact ⟨by omega, h2, h3⟩
        split at h
        · rename_i S' hS
          injection h with h; subst h
          obtain ⟨E, e1, e2, e3, e4, e5⟩ := findI_some hS
          refine ⟨f :: E, by rw [e1, List.append_assoc]; rfl, by simp [e2], ⟨Int.le_refl _, by omega, e3⟩, e4, fun E' hl hi hb => ?_⟩
          cases E' with
          | nil => simp at hl
          | cons x r =>
            unfold lexlt
            by_cases e : x = f
            · subst e
              rw [if_pos rfl]
              exact e5 r (by simpa using hl) hi.2.2 (by rw [List.append_assoc]; exact hb)
            · rw [if_neg e]
              have := hi.1
              exact decide_eq_false (by omega)
        · rename_i hS
          obtain ⟨E, e1, e2, e3, e4, e5⟩ := ih (f + 1) (by omega) h
          exact ⟨E, e1, e2, e3.mono (by omega), e4, fun E' hl hi hb => e5 E' hl (none_case E' hS hl hi hb) hb⟩
    exact key _ f rfl h
theorem findI_none {bl : List Int → Bool} {n : Int} : ∀ {m : Nat} {f : Int} {acc E : List Int}, findI bl n m f acc = none → E.length = m → Inc n f E → bl (acc ++ E) = false
  | 0, f, acc, E, h, hl, hi => by
    obtain rfl := List.eq_nil_of_length_eq_zero hl
    unfold findI at h
    rw [List.append_nil]
    cases hb : bl acc with
    | false => rfl
    | true => rw [if_pos hb] at h; cases h
  | m + 1, f, acc, E, h, hl, hi => by
    cases E with
    | nil => simp at hl
    | cons y r =>
      unfold findI at h
      rw [List.findSome?_eq_none_iff] at h
      simp only [List.length_cons] at hl
      have hrm : r.length = m := by omega
      have hy : y < n - m := by
        obtain ⟨a1, a2, a3⟩ := hi
        by_cases hr0 : r = []
        · subst hr0; simp at hrm; omega
        · have := a3.len hr0; omega
      have := findI_none (h y (mem_rng.2 ⟨hi.1, hy⟩)) hrm hi.2.2
      rwa [List.append_assoc] at this
theorem findI_congr {bl bl' : List Int → Bool} {n : Int} (h : ∀ s, bl s = bl' s) : ∀ (m : Nat) (f : Int) (acc : List Int), findI bl n m f acc = findI bl' n m f acc
  | 0, f, acc => by unfold findI; rw [h]
  | m + 1, f, acc => by
    unfold findI
    congr 1
    funext i
    exact findI_congr h m (i + 1) (acc ++ [i])
end Go.Proofs.Ytbbjopgneophnaa
