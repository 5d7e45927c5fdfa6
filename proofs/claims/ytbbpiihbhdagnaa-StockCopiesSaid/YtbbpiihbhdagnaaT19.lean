/- Typed abstract walk, part 19: the arguments of a law read as data. -/
import Derived.Test.YtbbpiihbhdagnaaT18
import Derived.OpenShut
import Derived.WideShapes
namespace Go.Proofs.Ytbbpiihbhdagnaa
set_option linter.unusedVariables false
set_option linter.unusedSimpArgs false
open Go.RowKit Go.WideShapes
namespace T
section
variable (P : Program)
def bF (T : TypeId) : Bool := match P.underlying T with
  | some .bool => true
  | _ => false
def iF (k : IntKind) (T : TypeId) : Bool := match P.underlying T with
  | some (.int k') => k == k'
  | _ => false
def sF (T : TypeId) : Bool := match P.underlying T with
  | some .string => true
  | _ => false
mutual
def tyFit : Ty → TypeId → Bool
  | .bool, T => bF P T
  | .int k, T => iF P k T
  | .str, T => sF P T
  | .sl t, T => match P.underlying T with
    | some (.slice e) => tyFit t e && P.cellsOf e == t.size && t.size != 0
    | _ => false
  | .st t, T => match P.underlying T with
    | some (.struct fs) => chainFit t fs.toList 0 && P.cellsOf T == t.size
    | _ => false
  | _, _ => false
termination_by structural t => t
def chainFit : Ty → List Field → Nat → Bool
  | .cons a b, fs, off => match fs with
    | f :: r => f.offset == off && P.cellsOf f.type == a.size && tyFit a f.type && chainFit b r (off + a.size)
    | [] => false
  | .nil, fs, _ => fs.isEmpty
  | .bool, fs, off => match fs with
    | [f] => f.offset == off && P.cellsOf f.type == 1 && bF P f.type
    | _ => false
  | .int k, fs, off => match fs with
    | [f] => f.offset == off && P.cellsOf f.type == 1 && iF P k f.type
    | _ => false
  | .str, fs, off => match fs with
    | [f] => f.offset == off && P.cellsOf f.type == 1 && sF P f.type
    | _ => false
  | .sl t, fs, off => match fs with
    | [f] => f.offset == off && P.cellsOf f.type == 1 && (match P.underlying f.type with
      | some (.slice e) => tyFit t e && P.cellsOf e == t.size && t.size != 0
      | _ => false)
    | _ => false
  | .st t, fs, off => match fs with
    | [f] => f.offset == off && P.cellsOf f.type == t.size && (match P.underlying f.type with
      | some (.struct fs) => chainFit t fs.toList 0 && P.cellsOf f.type == t.size
      | _ => false)
    | _ => false
  | _, _, _ => false
termination_by structural t => t
end
end
section
variable {P : Program} {H : Type} {enc : TypeId × Value → H} {W : World}
abbrev Tr1 (P : Program) {H : Type} (enc : TypeId × Value → H) (W : World) (fuel : Nat) (T : TypeId) (cs : List Value) (x : DataW H × List MemPlace) : Prop := DataW.trod enc P W 0 (fun _ => true) true fuel T cs = some x
def NoM : Nat → Prop := fun _ => False
theorem mapM_mem {α β : Type} {f : α → Option β} : ∀ {l : List α} {r : List β}, l.mapM f = some r → r.length = l.length ∧ ∀ (i : Nat) (a : α), l[i]? = some a → ∃ b, f a = some b
  | [], r, h => by simp at h; subst h; exact ⟨rfl, fun i a h => by simp at h⟩
  | x :: l, r, h => by
    simp only [List.mapM_cons, Option.bind_eq_bind, Option.bind_eq_some_iff, Option.pure_def, Option.some.injEq] at h
    obtain ⟨b, hb, bs, hbs, rfl⟩ := h
    obtain ⟨k1, k2⟩ := mapM_mem hbs
    refine ⟨by simp [k1], fun i a hi => ?_⟩
    cases i with
    | zero => simp at hi; subst hi; exact ⟨b, hb⟩
    | succ i => exact k2 i a (by simpa using hi)
theorem cells_at {a : Addr} {n : Nat} {cs : List Value} (h : W.cells? 0 a n = some cs) : cs.length = n ∧ ∀ (j : Nat) (v : Value), cs[j]? = some v → W.cell? (a.add j) = some v := by
  unfold World.cells? at h
  simp only [Nat.zero_le, if_true] at h
  have key : ∀ (l : List Nat) (cs : List Value), l.mapM (fun i => W.cell? (a.add i)) = some cs → cs.length = l.length ∧ ∀ (j : Nat) (v : Value), cs[j]? = some v → ∃ i, l[j]? = some i ∧ W.cell? (a.add i) = some v := by
    intro l
    induction l with
    | nil => intro cs h; simp at h; subst h; exact ⟨rfl, fun j v h => by simp at h⟩
    | cons x l ih =>
      intro cs h
      simp only [List.mapM_cons, Option.bind_eq_bind, Option.bind_eq_some_iff, Option.pure_def, Option.some.injEq] at h
      obtain ⟨b, hb, bs, hbs, rfl⟩ := h
      obtain ⟨k1, k2⟩ := ih bs hbs
      refine ⟨by simp [k1], fun j v hj => ?_⟩
      cases j with
      | zero => simp at hj; subst hj; exact ⟨x, rfl, hb⟩
      | succ j => simpa using k2 j v (by simpa using hj)
  obtain ⟨k1, k2⟩ := key _ _ h
  refine ⟨by simpa using k1, fun j v hj => ?_⟩
  obtain ⟨i, hi, hv⟩ := k2 j v hj
  have : i = j := by
    rw [List.getElem?_range (by have := (List.getElem?_eq_some_iff.1 hi).1; simpa using this)] at hi
    injection hi with hi; exact hi.symm
  rw [this] at hv; exact hv
/-- The rows of a slice, one by one. -/
theorem rows_of {t : Ty} {b off s : Nat} (hs : s = t.size) : ∀ (n k : Nat), (∀ i, k ≤ i → i < k + n → ∃ (cs : List Value) (x : t.den), cs.length = s ∧ CellsAt W b (off + i * s) cs ∧ Rd P t W NoM x cs) →
    ∃ (d : List t.den) (cc : List Value), d.length = n ∧ CellsAt W b (off + k * s) cc ∧ RowsBy (fun x c => Rd P t W NoM x c) d cc
  | 0, k, _ => ⟨[], [], rfl, fun j v h => by simp at h, rfl⟩
  | n + 1, k, h => by
    obtain ⟨cs, x, h1, h2, h3⟩ := h k (Nat.le_refl _) (by omega)
    obtain ⟨d, cc, k1, k2, k3⟩ := rows_of hs n (k + 1) (fun i hi hi' => h i (by omega) (by omega))
    refine ⟨x :: d, cs ++ cc, by simp [k1], h2.append ?_, cs, cc, rfl, h3, k3⟩
    rw [h1]
    have : off + k * s + s = off + (k + 1) * s := by rw [Nat.add_mul]; omega
    rw [this]; exact k2
theorem trod_fields {fuel : Nat} {cs : List Value} {fs : List Field} {xs : List (DataW H × List MemPlace)} (h : fs.mapM (fun f => DataW.trod enc P W 0 (fun _ => true) true fuel f.type ((cs.drop f.offset).take (P.cellsOf f.type))) = some xs) :
    ∀ f ∈ fs, ∃ y, Tr1 P enc W fuel f.type ((cs.drop f.offset).take (P.cellsOf f.type)) y := by
  intro f hf
  obtain ⟨i, hi⟩ := List.getElem?_of_mem hf
  exact (mapM_mem h).2 i f hi
theorem slice_open {fuel : Nat} {T e : TypeId} {t : Ty} {cs : List Value} {y : DataW H × List MemPlace} (hu : P.underlying T = some (.slice e)) (hsz : P.cellsOf e = t.size) (h0 : t.size ≠ 0)
    (ih : ∀ (fuel : Nat) (cs : List Value) (y : DataW H × List MemPlace), Tr1 P enc W fuel e cs y → ∃ x : t.den, Rd P t W NoM x cs) (h : Tr1 P enc W fuel T cs y) : ∃ x : List t.den, Rd P (.sl t) W NoM x cs := by
  cases fuel with
  | zero => simp [Tr1, DataW.trod] at h
  | succ fuel =>
    unfold Tr1 DataW.trod at h
    rw [hu] at h
    cases cs with
    | nil => simp at h
    | cons v r =>
      cases r with
      | cons _ _ => cases v <;> simp at h
      | nil =>
        cases v <;> (try (simp at h; done))
        rename_i A len cap
        cases A with
        | none =>
          cases len <;> cases cap <;> simp at h
          exact ⟨[], none, 0, 0, rfl, rfl, Nat.le_refl _, Nat.zero_le _, .inl rfl⟩
        | some a =>
          simp only [Nat.zero_le, true_and] at h
          split at h
          · rename_i hle
            simp only [Option.bind_eq_some_iff] at h
            obtain ⟨elems, he, _⟩ := h
            obtain ⟨_, h2⟩ := mapM_mem he
            have hel : ∀ i, i < len → ∃ (cs : List Value) (x : t.den), cs.length = t.size ∧ (∀ (j : Nat) (v : Value), cs[j]? = some v → W.cell? ((a.add (i * t.size)).add j) = some v) ∧ Rd P t W NoM x cs := by
              intro i hi
              obtain ⟨b, hb⟩ := h2 i i (by simp [hi])
              simp only [Option.bind_eq_some_iff] at hb
              obtain ⟨cs, hcs, hb⟩ := hb
              obtain ⟨x, hx⟩ := ih fuel cs b hb
              rw [hsz] at hcs
              obtain ⟨k1, k2⟩ := cells_at hcs
              exact ⟨cs, x, k1, k2, hx⟩
            by_cases hl : len = 0
            · exact ⟨[], some a, len, cap, rfl, hl.symm, hle.1, hle.2, .inl hl⟩
            · have ht := h0
              · obtain ⟨b, off, spot⟩ := a
                have hspot : spot = none := by
                  obtain ⟨cs, x, k1, k2, _⟩ := hel 0 (by omega)
                  have := k2 0 (cs[0]'(by omega)) (by simp [show 0 < cs.length by omega])
                  have := World.cell?_spot this
                  simpa [Addr.add] using this
                subst hspot
                obtain ⟨d, cc, k1, k2, k3⟩ := rows_of (P := P) (W := W) (t := t) (b := b) (off := off) rfl len 0 (fun i _ hi => by
                  obtain ⟨cs, x, q1, q2, q3⟩ := hel i (by omega)
                  refine ⟨cs, x, q1, fun j v hj => ?_, q3⟩
                  have := q2 j v hj
                  rwa [Addr.add_mid, Addr.add_mid] at this)
                have hb : b < W.heap.size := by
                  obtain ⟨cs, x, q1, q2, _⟩ := hel 0 (by omega)
                  have := q2 0 (cs[0]'(by omega)) (by simp [show 0 < cs.length by omega])
                  have := World.block_lt_of_cell? W _ this
                  simpa [Addr.add_mid] using this
                exact ⟨d, some ⟨b, off, none⟩, len, cap, rfl, k1, hle.1, hle.2, .inr ⟨b, off, cc, rfl, hb, fun h => h, by simpa using k2, k3⟩⟩
          · cases h
theorem bool_open {fuel : Nat} {T : TypeId} {cs : List Value} {y : DataW H × List MemPlace} (hu : P.underlying T = some .bool) (h : Tr1 P enc W fuel T cs y) : ∃ x : Bool, Rd P .bool W NoM x cs := by
  cases fuel with
  | zero => simp [Tr1, DataW.trod] at h
  | succ fuel =>
    unfold Tr1 DataW.trod at h
    rw [hu] at h
    cases cs with
    | nil => simp at h
    | cons v r =>
      cases r with
      | cons _ _ => cases v <;> simp at h
      | nil => cases v <;> simp at h; exact ⟨_, rfl⟩
theorem int_open {fuel : Nat} {T : TypeId} {k : IntKind} {cs : List Value} {y : DataW H × List MemPlace} (hu : P.underlying T = some (.int k)) (h : Tr1 P enc W fuel T cs y) : ∃ x : Int, Rd P (.int k) W NoM x cs := by
  cases fuel with
  | zero => simp [Tr1, DataW.trod] at h
  | succ fuel =>
    unfold Tr1 DataW.trod at h
    rw [hu] at h
    cases cs with
    | nil => simp at h
    | cons v r =>
      cases r with
      | cons _ _ => cases v <;> simp at h
      | nil =>
        cases v <;> simp at h
        obtain ⟨⟨rfl, hwf⟩, _⟩ := h
        refine ⟨_, rfl, ?_⟩
        simpa [Lit.wf] using hwf
theorem str_open {fuel : Nat} {T : TypeId} {cs : List Value} {y : DataW H × List MemPlace} (hu : P.underlying T = some .string) (h : Tr1 P enc W fuel T cs y) : ∃ x : ByteArray, Rd P .str W NoM x cs := by
  cases fuel with
  | zero => simp [Tr1, DataW.trod] at h
  | succ fuel =>
    unfold Tr1 DataW.trod at h
    rw [hu] at h
    cases cs with
    | nil => simp at h
    | cons v r =>
      cases r with
      | cons _ _ => cases v <;> simp at h
      | nil =>
        cases v <;> simp at h
        exact ⟨_, rfl, h.1⟩
theorem struct_open {fuel : Nat} {T : TypeId} {fs : Array Field} {cs : List Value} {y : DataW H × List MemPlace} (hu : P.underlying T = some (.struct fs)) (h : Tr1 P enc W fuel T cs y) :
    cs.length = P.cellsOf T ∧ ∃ fuel, ∀ f ∈ fs.toList, ∃ y, Tr1 P enc W fuel f.type ((cs.drop f.offset).take (P.cellsOf f.type)) y := by
  cases fuel with
  | zero => simp [Tr1, DataW.trod] at h
  | succ fuel =>
    unfold Tr1 DataW.trod at h
    rw [hu] at h
    have h' : (if cs.length = P.cellsOf T then (fs.toList.mapM fun f => DataW.trod enc P W 0 (fun _ => true) true fuel f.type ((cs.drop f.offset).take (P.cellsOf f.type))).map fun xs => (DataW.agg (xs.map (·.1)), xs.flatMap (·.2)) else none) = some y := by
      cases cs with
      | nil => exact h
      | cons v r => cases v <;> exact h
    split at h'
    · rename_i hl
      obtain ⟨xs, hxs, _⟩ := Option.map_eq_some_iff.1 h'
      exact ⟨hl, fuel, trod_fields hxs⟩
    · cases h'
mutual
theorem open_ty : ∀ {t : Ty} {T : TypeId}, tyFit P t T = true → ∀ (fuel : Nat) (cs : List Value) (y : DataW H × List MemPlace), Tr1 P enc W fuel T cs y → ∃ x : t.den, Rd P t W NoM x cs
  | .bool, T, hf, fuel, cs, y, h => by
    simp only [tyFit, bF] at hf
    split at hf
    · rename_i hu; exact bool_open hu h
    · cases hf
  | .int k, T, hf, fuel, cs, y, h => by
    simp only [tyFit, iF] at hf
    split at hf
    · rename_i hu
      simp only [beq_iff_eq] at hf
      subst hf
      exact int_open hu h
    · cases hf
  | .str, T, hf, fuel, cs, y, h => by
    simp only [tyFit, sF] at hf
    split at hf
    · rename_i hu; exact str_open hu h
    · cases hf
  | .sl t, T, hf, fuel, cs, y, h => by
    simp only [tyFit] at hf
    split at hf
    · rename_i e hu
      simp only [Bool.and_eq_true, beq_iff_eq, bne_iff_ne] at hf
      exact slice_open hu hf.1.2 hf.2 (fun fuel cs y h => open_ty hf.1.1 fuel cs y h) h
    · cases hf
  | .st t, T, hf, fuel, cs, y, h => by
    simp only [tyFit] at hf
    split at hf
    · rename_i fs hu
      simp only [Bool.and_eq_true, beq_iff_eq] at hf
      obtain ⟨hl, fuel', hfs⟩ := struct_open hu h
      obtain ⟨x, hx⟩ := open_chain hf.1 fuel' cs hfs
      refine ⟨x, ?_⟩
      rw [List.drop_zero, List.take_of_length_le (by rw [hl, hf.2]; exact Nat.le_refl _)] at hx
      exact hx
    · cases hf
  | .ptr _, _, hf, _, _, _, _ => by simp [tyFit] at hf
  | .nil, _, hf, _, _, _, _ => by simp [tyFit] at hf
  | .cons _ _, _, hf, _, _, _, _ => by simp [tyFit] at hf
  | .fn _ _, _, hf, _, _, _, _ => by simp [tyFit] at hf
  | .fn2 _ _ _, _, hf, _, _, _, _ => by simp [tyFit] at hf
  | .mp _ _, _, hf, _, _, _, _ => by simp [tyFit] at hf
theorem open_chain : ∀ {t : Ty} {fs : List Field} {off : Nat}, chainFit P t fs off = true → ∀ (fuel : Nat) (cs : List Value), (∀ f ∈ fs, ∃ y, Tr1 P enc W fuel f.type ((cs.drop f.offset).take (P.cellsOf f.type)) y) → ∃ x : t.den, Rd P t W NoM x ((cs.drop off).take t.size)
  | .cons a b, fs, off, hf, fuel, cs, h => by
    cases fs with
    | nil => simp [chainFit] at hf
    | cons f r =>
      simp only [chainFit, Bool.and_eq_true, beq_iff_eq] at hf
      obtain ⟨⟨⟨h1, h2⟩, h3⟩, h4⟩ := hf
      obtain ⟨y, hy⟩ := h f (by simp)
      rw [h1, h2] at hy
      obtain ⟨x1, hx1⟩ := open_ty h3 fuel _ y hy
      obtain ⟨x2, hx2⟩ := open_chain h4 fuel cs fun g hg => h g (by simp [hg])
      refine ⟨(x1, x2), _, _, ?_, hx1, hx2⟩
      rw [← List.drop_drop, show (Ty.cons a b).size = a.size + b.size from rfl, List.take_add]
  | .nil, fs, off, hf, fuel, cs, h => ⟨(), by simp [Ty.size, Rd]⟩
  | .bool, fs, off, hf, fuel, cs, h => by
    cases fs with
    | nil => simp [chainFit] at hf
    | cons f r =>
    cases r with
    | cons _ _ => simp [chainFit] at hf
    | nil =>
      simp only [chainFit, Bool.and_eq_true, beq_iff_eq] at hf
      obtain ⟨⟨h1, h2⟩, h3⟩ := hf
      obtain ⟨y, hy⟩ := h f (by simp)
      rw [h1, h2] at hy
      simp only [bF, iF, sF] at h3
      split at h3
      · rename_i hu; exact bool_open hu hy
      · cases h3
  | .int k, fs, off, hf, fuel, cs, h => by
    cases fs with
    | nil => simp [chainFit] at hf
    | cons f r =>
    cases r with
    | cons _ _ => simp [chainFit] at hf
    | nil =>
      simp only [chainFit, Bool.and_eq_true, beq_iff_eq] at hf
      obtain ⟨⟨h1, h2⟩, h3⟩ := hf
      obtain ⟨y, hy⟩ := h f (by simp)
      rw [h1, h2] at hy
      simp only [bF, iF, sF] at h3
      split at h3
      · rename_i hu
        simp only [beq_iff_eq] at h3
        subst h3
        exact int_open hu hy
      · cases h3
  | .str, fs, off, hf, fuel, cs, h => by
    cases fs with
    | nil => simp [chainFit] at hf
    | cons f r =>
    cases r with
    | cons _ _ => simp [chainFit] at hf
    | nil =>
      simp only [chainFit, Bool.and_eq_true, beq_iff_eq] at hf
      obtain ⟨⟨h1, h2⟩, h3⟩ := hf
      obtain ⟨y, hy⟩ := h f (by simp)
      rw [h1, h2] at hy
      simp only [bF, iF, sF] at h3
      split at h3
      · rename_i hu; exact str_open hu hy
      · cases h3
  | .sl t, fs, off, hf, fuel, cs, h => by
    cases fs with
    | nil => simp [chainFit] at hf
    | cons f r =>
    cases r with
    | cons _ _ => simp [chainFit] at hf
    | nil =>
      simp only [chainFit, Bool.and_eq_true, beq_iff_eq] at hf
      obtain ⟨⟨h1, h2⟩, h3⟩ := hf
      obtain ⟨y, hy⟩ := h f (by simp)
      rw [h1, h2] at hy
      split at h3
      · rename_i e hu
        simp only [Bool.and_eq_true, beq_iff_eq, bne_iff_ne] at h3
        exact slice_open hu h3.1.2 h3.2 (fun fuel cs y h => open_ty h3.1.1 fuel cs y h) hy
      · cases h3
  | .st t, fs, off, hf, fuel, cs, h => by
    cases fs with
    | nil => simp [chainFit] at hf
    | cons f r =>
    cases r with
    | cons _ _ => simp [chainFit] at hf
    | nil =>
      simp only [chainFit, Bool.and_eq_true, beq_iff_eq] at hf
      obtain ⟨⟨h1, h2⟩, h3⟩ := hf
      obtain ⟨y, hy⟩ := h f (by simp)
      rw [h1, h2] at hy
      split at h3
      · rename_i gs hu
        simp only [Bool.and_eq_true, beq_iff_eq] at h3
        obtain ⟨hl, fuel', hfs⟩ := struct_open hu hy
        obtain ⟨x, hx⟩ := open_chain h3.1 fuel' _ hfs
        refine ⟨x, ?_⟩
        rw [List.drop_zero, List.take_of_length_le (by rw [hl, h3.2]; exact Nat.le_refl _)] at hx
        exact hx
      · cases h3
  | .ptr _, _, _, hf, _, _, _ => by simp [chainFit] at hf
  | .fn _ _, _, _, hf, _, _, _ => by simp [chainFit] at hf
  | .fn2 _ _ _, _, _, hf, _, _, _ => by simp [chainFit] at hf
  | .mp _ _, _, _, hf, _, _, _ => by simp [chainFit] at hf
end
theorem fit_shape {t : Ty} {T : TypeId} {r : Reach} {b : Nat} {v : Value} (hf : tyFit P t T = true) (hv : Value.okWide P W r b T v) : t.shape v := by
  unfold Ty.shape
  cases t <;> simp only [tyFit, bF, iF, sF, Bool.false_eq_true] at hf <;> split at hf <;> (try (cases hf; done))
  all_goals
    rename_i hu
    simp only [Value.okWide, hu] at hv
    simp only [Ty.isSt, Bool.false_eq_true, iff_false, iff_true]
  · rintro ⟨cs, rfl⟩; simp [Cell.okWide, Cell.ok, hu] at hv
  · rintro ⟨cs, rfl⟩; simp [Cell.okWide, Cell.ok, hu] at hv
  · rintro ⟨cs, rfl⟩; simp [Cell.okWide, Cell.ok, hu] at hv
  · rintro ⟨cs, rfl⟩; simp [Cell.okWide, Cell.ok, hu] at hv
  · obtain ⟨cs, h, _⟩ := hv; exact ⟨cs, h⟩
/-- An argument reads as data. -/
theorem open_arg {t : Ty} {T : TypeId} {r : Reach} {b : Nat} {v : Value} {d : DataW H} {p : List MemPlace} (hf : tyFit P t T = true) (hv : Value.okWide P W r b T v) (h : DataW.Trod enc P W 0 (fun _ => true) true T v d p) : ∃ x : t.den, RdV P t W NoM x v := by
  obtain ⟨fuel, h⟩ := h
  obtain ⟨x, hx⟩ := open_ty hf fuel _ _ h
  exact ⟨x, fit_shape hf hv, hx⟩
end
end T
end Go.Proofs.Ytbbpiihbhdagnaa
