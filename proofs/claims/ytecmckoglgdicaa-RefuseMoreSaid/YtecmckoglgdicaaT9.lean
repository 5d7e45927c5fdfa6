/- Typed abstract walk, part 9: each operation does what the walk says (4): new blocks. -/
import Derived.Test.YtecmckoglgdicaaT8
namespace Go.Proofs.Ytecmckoglgdicaa
set_option linter.unusedVariables false
set_option linter.unusedSimpArgs false
open Go.RowKit
namespace T
section
variable {P : Program} {B : Nat} {M : Nat → Prop} {hp lh : Hp} {ψ : Nat → Value} {w w' : World} {fr : Nat} {C : List Ent} {o : Oper} {a : Act}
theorem zero_rd {M' : Nat → Prop} : ∀ {t : Ty} {cs r : List Value}, zeroOk t cs = some r → ∃ c, cs = c ++ r ∧ Rd P t w M' t.dflt c
  | .bool, cs, r, h => by
    cases cs with
    | nil => simp [zeroOk] at h
    | cons v vs =>
      cases v <;> simp [zeroOk] at h
      obtain ⟨rfl, rfl⟩ := h
      exact ⟨[_], rfl, rfl⟩
  | .int k, cs, r, h => by
    cases cs with
    | nil => simp [zeroOk] at h
    | cons v vs =>
      cases v <;> simp [zeroOk] at h
      obtain ⟨⟨rfl, rfl⟩, rfl⟩ := h
      refine ⟨[_], rfl, rfl, ?_⟩
      show IntKind.min _ ≤ 0 ∧ 0 ≤ IntKind.max _
      rename_i k; cases k <;> decide
  | .str, cs, r, h => by
    cases cs with
    | nil => simp [zeroOk] at h
    | cons v vs =>
      cases v <;> simp [zeroOk] at h
      obtain ⟨rfl, rfl⟩ := h
      exact ⟨[_], rfl, rfl, by simp [Ty.dflt, maxLen]⟩
  | .sl t, cs, r, h => by
    cases cs with
    | nil => simp [zeroOk] at h
    | cons v vs =>
      cases v <;> (try (simp [zeroOk] at h; done))
      rename_i A n c
      cases A <;> cases n <;> cases c <;> simp [zeroOk] at h
      subst h
      exact ⟨[_], rfl, none, 0, 0, rfl, rfl, Nat.le_refl _, Nat.zero_le _, .inl rfl⟩
  | .st t, cs, r, h => zero_rd (t := t) h
  | .nil, cs, r, h => by simp [zeroOk] at h; subst h; exact ⟨[], rfl, rfl⟩
  | .cons x y, cs, r, h => by
    unfold zeroOk at h
    split at h
    · rename_i r' h'
      obtain ⟨c1, rfl, q1⟩ := zero_rd (t := x) h'
      obtain ⟨c2, rfl, q2⟩ := zero_rd (t := y) h
      exact ⟨c1 ++ c2, by simp, c1, c2, rfl, q1, q2⟩
    · cases h
  | .ptr _, cs, r, h => by cases cs <;> simp [zeroOk] at h
  | .fn _ _, cs, r, h => by cases cs <;> simp [zeroOk] at h
  | .fn2 _ _ _, cs, r, h => by cases cs <;> simp [zeroOk] at h
theorem zero_avs {M' : Nat → Prop} : ∀ {t : Ty} {cs r : List Value}, zeroOk t cs = some r → ∃ c, cs = c ++ r ∧ AVRs P hp ψ w M' (zeroAV t) c
  | .sl t, cs, r, h => by
    cases cs with
    | nil => simp [zeroOk] at h
    | cons v vs =>
      cases v <;> (try (simp [zeroOk] at h; done))
      rename_i A n c
      cases A <;> cases n <;> cases c <;> simp [zeroOk] at h
      subst h
      exact ⟨[_], rfl, _, _, rfl, rfl, rfl⟩
  | .st t, cs, r, h => zero_avs (t := t) h
  | .nil, cs, r, h => by simp [zeroOk] at h; subst h; exact ⟨[], rfl, rfl⟩
  | .cons x y, cs, r, h => by
    unfold zeroOk at h
    split at h
    · rename_i r' h'
      obtain ⟨c1, rfl, q1⟩ := zero_avs (t := x) h'
      obtain ⟨c2, rfl, q2⟩ := zero_avs (t := y) h
      exact ⟨c1 ++ c2, by simp, q1.append q2⟩
    · cases h
  | .bool, cs, r, h => by obtain ⟨c, e, q⟩ := zero_rd (P := P) (w := w) (M' := M') h; exact ⟨c, e, scatter_r q⟩
  | .int k, cs, r, h => by obtain ⟨c, e, q⟩ := zero_rd (P := P) (w := w) (M' := M') h; exact ⟨c, e, scatter_r q⟩
  | .str, cs, r, h => by obtain ⟨c, e, q⟩ := zero_rd (P := P) (w := w) (M' := M') h; exact ⟨c, e, scatter_r q⟩
  | .ptr _, cs, r, h => by cases cs <;> simp [zeroOk] at h
  | .fn _ _, cs, r, h => by cases cs <;> simp [zeroOk] at h
  | .fn2 _ _ _, cs, r, h => by cases cs <;> simp [zeroOk] at h
theorem zeroIs_avs {T : TypeId} {t : Ty} (h : zeroIs P T t = true) : ∃ i z, P.info? T = some i ∧ i.zero = some z ∧ (∀ w M', Rd P t w M' t.dflt z.cells.toList) ∧ ∀ hp ψ w M', AVRs P hp ψ w M' (zeroAV t) z.cells.toList := by
  unfold zeroIs at h
  split at h
  · rename_i i hi
    split at h
    · rename_i z hz
      split at h
      · rename_i h0
        refine ⟨i, z, hi, hz, fun w M' => ?_, fun hp ψ w M' => ?_⟩
        · obtain ⟨c, e, q⟩ := zero_rd (P := P) (w := w) (M' := M') h0
          rw [e, List.append_nil]; exact q
        · obtain ⟨c, e, q⟩ := zero_avs (P := P) (hp := hp) (ψ := ψ) (w := w) (M' := M') h0
          rw [e, List.append_nil]; exact q
      · cases h
    · cases h
  · cases h
theorem zeroIs_spec {T : TypeId} {t : Ty} (h : zeroIs P T t = true) : ∃ i z, P.info? T = some i ∧ i.zero = some z ∧ ∀ w M', Rd P t w M' t.dflt z.cells.toList := by
  unfold zeroIs at h
  split at h
  · rename_i i hi
    split at h
    · rename_i z hz
      split at h
      · rename_i h0
        refine ⟨i, z, hi, hz, fun w M' => ?_⟩
        obtain ⟨c, e, q⟩ := zero_rd (P := P) (w := w) (M' := M') h0
        rw [e, List.append_nil]; exact q
      · cases h
    · cases h
  · cases h
theorem below_alloc (o : Obj) : Below w.heap.size w (w.alloc o) := (Below.refl _ _).alloc (Nat.le_refl _) o
theorem size_alloc (o : Obj) : (w.alloc o).heap.size = w.heap.size + 1 := by simp
/-- A new variable. -/
theorem new_box {T : TypeId} {cs : List AV} {cells : Array Value} (c : Ctx P B M hp ψ w fr) (hf : fr ∉ AV.locsL cs) (h : AVRs P hp ψ w (Mu M hp ψ) cs cells.toList) (h1 : ∀ u ∈ cells.toList, u.oneCell' = true)
    (hr : (execOp a.eval o).run P w = .ok (.value (.pointer (some ⟨w.heap.size, 0, none⟩))) (w.alloc (.cells cells T))) : Does P o a w (OpPost P B M hp ψ w fr ⟨.ptr fr 0, [], some (fr, .box T cs)⟩) := by
  refine does_run hr (c.fresh (u := .pointer (some ⟨w.heap.size, 0, none⟩)) (below_alloc _) ?_ ?_ ?_)
  · intro b hb
    simp only [blk, Option.some.injEq] at hb; subst hb
    rw [size_alloc]; omega
  · intro hl
    refine ⟨w.heap.size, cells, by simp, c.hok.bz, heap_alloc_new w _, ?_, h1⟩
    refine AVRs.later (fr := fr) hl (fun l h => upd'_other _ _ h) (fun l ob' hl h => ?_) hf h
    rw [putHp_other _ _ hl] at h
    exact ⟨ob', (kill_some h).2, like_refl _⟩
  · intro _ ob _
    exact ⟨w.heap.size, by simp, rfl⟩
theorem scatter_locs (t : Ty) : ∀ (d : t.den) (z : Nat), z ∉ AV.locsL (scatter t d) := fun d z => by
  have : cellsOf (fun _ => none) (.val t d) = some (scatter t d) := rfl
  exact cellsOf_locs this (by simp [AV.locs])
theorem zeroAV_locs : ∀ (t : Ty) (z : Nat), z ∉ AV.locsL (zeroAV t)
  | .st t, z => zeroAV_locs t z
  | .nil, z => by simp [zeroAV, AV.locsL]
  | .cons a b, z => by
    have ha := zeroAV_locs a z
    have hb := zeroAV_locs b z
    have app : ∀ xs ys : List AV, z ∉ AV.locsL xs → z ∉ AV.locsL ys → z ∉ AV.locsL (xs ++ ys) := by
      intro xs ys h1 h2
      induction xs with
      | nil => exact h2
      | cons x r ih =>
        simp only [List.cons_append, AV.locsL, List.mem_append, not_or] at h1 ⊢
        exact ⟨h1.1, ih h1.2⟩
    exact app _ _ ha hb
  | .sl _, z => by simp [zeroAV, AV.locsL, AV.locs]
  | .bool, z => scatter_locs .bool _ z
  | .int k, z => scatter_locs (.int k) _ z
  | .str, z => scatter_locs .str _ z
  | .ptr t, z => scatter_locs (.ptr t) _ z
  | .fn a r, z => scatter_locs (.fn a r) _ z
  | .fn2 a b r, z => scatter_locs (.fn2 a b r) _ z
theorem alloc_ok {T : TypeId} {t : Ty} (ho : o.op = .alloc T) (hT : zeroIs P T t = true) (c : Ctx P B M hp ψ w fr) : Does P o a w (OpPost P B M hp ψ w fr ⟨.ptr fr 0, [], some (fr, .box T (zeroAV t))⟩) := by
  obtain ⟨i, z, hi, hz, hrd, hav⟩ := zeroIs_avs hT
  refine new_box c (zeroAV_locs t _) (hav hp ψ w _) (hrd w (Mu M hp ψ)).one ?_
  unfold execOp
  simp [ho, Instr.alloc, zeroValue, typeInfo, hi, hz, newVar, newRow]
theorem box_ok {T : TypeId} {X : Operand} {x : AV} {cs : List AV} (ho : o.op = .box T X) (hlh : ∀ l ob, lh l = some ob → hp l = some ob) (hX : AVR P hp ψ w (Mu M hp ψ) x (a.eval X)) (hf : fr ∉ x.locs) (h : cellsOf lh x = some cs) (c : Ctx P B M hp ψ w fr) :
    Does P o a w (OpPost P B M hp ψ w fr ⟨.ptr fr 0, [], some (fr, .box T cs)⟩) := by
  obtain ⟨h1, h2⟩ := cellsOf_ok c.hok hlh h hX
  refine new_box c (cellsOf_locs h hf) h1 h2 ?_
  unfold execOp
  simp [ho, Instr.box, newVar, newRow]
/-- A new row. -/
theorem new_row {e : TypeId} {t : Ty} {xs : List t.den} {v : Value} {ks : List Nat} {cells : List Value} (c : Ctx P B M hp ψ w fr) (hb : Below w.heap.size w w') (hown : w'.ownsRow w.heap.size e t.size v xs.length cells)
    (hrow : Later w (Mu M hp ψ) w' (Mu M (putHp (kill hp ks) fr (.row e t xs)) (upd' ψ fr v)) → RowsBy (fun x c => Rd P t w' (Mu M (putHp (kill hp ks) fr (.row e t xs)) (upd' ψ fr v)) x c) xs cells) :
    OpPost P B M hp ψ w fr ⟨.own fr, ks, some (fr, .row e t xs)⟩ v w' := by
  refine c.fresh (u := v) hb (fun b hb => ownsRow_blk hown hb) (fun hl => ⟨cells, ?_, hrow hl⟩) (fun _ ob _ => by simp)
  rw [upd'_same]
  obtain ⟨h1, h2⟩ := hown
  refine ⟨h1, ?_⟩
  rcases h2 with h2 | ⟨g, cap, cur, q1, q2, r⟩
  · exact .inl h2
  · exact .inr ⟨g, cap, cur, q1, Nat.le_trans c.hok.bz q2, r⟩
theorem nilrow_ok {e : TypeId} {t : Ty} {X : Operand} (ho : o.op = .move X ∨ o.op = .assign X) (hX : X = .const (.slice none 0 0)) (c : Ctx P B M hp ψ w fr) : Does P o a w (OpPost P B M hp ψ w fr ⟨.own fr, [], some (fr, .row e t [])⟩) := by
  subst hX
  refine does_run (v := .slice none 0 0) (w' := w) ?_ (new_row (cells := []) c (Below.refl _ _) ⟨by simp, .inl ⟨rfl, rfl⟩⟩ fun _ => rfl)
  unfold execOp
  rcases ho with ho | ho <;> (simp only [ho]; rfl)
theorem made_rows (z : Array Value) (n : Nat) : (madeCells z (n * z.size)).toList = (List.replicate n z.toList).flatten := by
  unfold madeCells
  induction n with
  | zero => simp
  | succ n ih =>
    rw [Array.toList_map, Array.toList_range] at ih ⊢
    rw [Nat.succ_mul, Nat.add_comm (n * z.size), List.range_add, List.map_append, List.replicate_succ, List.flatten_cons, ← ih, List.map_map]
    congr 1
    · apply List.ext_getElem
      · simp
      · intro i h1 h2
        simp only [List.length_map, List.length_range] at h1
        simp [Nat.mod_eq_of_lt h1, h1]
    · apply List.map_congr_left
      intro i _
      simp
theorem rows_rep {t : Ty} {M' : Nat → Prop} {d : t.den} {c : List Value} (h : Rd P t w M' d c) : ∀ n, RowsBy (fun x c => Rd P t w M' x c) (List.replicate n d) (List.replicate n c).flatten
  | 0 => rfl
  | n + 1 => ⟨c, (List.replicate n c).flatten, by simp [List.replicate_succ], h, rows_rep h n⟩
theorem mkslice_ok {T e : TypeId} {t : Ty} {bytes : Nat} {X Y : Operand} {k k' : IntKind} {n m : Int} (ho : o.op = .makeSlice T X Y) (hT : elemOk P T e t = true) (hz : zeroIs P e t = true) (hb : (P.info? e).map (·.bytes) = some bytes) (hb0 : bytes ≠ 0)
    (hX : AVR P hp ψ w (Mu M hp ψ) (.val (.int k) n) (a.eval X)) (hY : AVR P hp ψ w (Mu M hp ψ) (.val (.int k') m) (a.eval Y)) (hp' : 0 ≤ n ∧ m = n ∧ (bytes : Int) * n ≤ 140737488355328) (c : Ctx P B M hp ψ w fr) :
    Does P o a w (OpPost P B M hp ψ w fr ⟨.own fr, [], some (fr, .row e t (List.replicate n.toNat t.dflt))⟩) := by
  obtain ⟨h0, rfl, h2⟩ := hp'
  obtain ⟨hu, i, hi, his⟩ := elemOk_spec hT
  obtain ⟨i', z, hi', hz', hrd⟩ := zeroIs_spec hz
  rw [hi] at hi'; injection hi' with hi'; subst hi'
  rw [hi] at hb
  simp only [Option.map_some, Option.some.injEq] at hb
  have hzs : z.cells.size = t.size := by have := (hrd w (fun _ => False)).len; simpa using this
  have hm : m ≤ 140737488355328 := by
    have : (1 : Int) ≤ bytes := by omega
    have := Int.mul_le_mul_of_nonneg_right this h0
    omega
  have hr := run_make (P := P) w T e i z hu hi hz' k k' m m h0 (Int.le_refl _) (by rw [hb]; omega) (by omega)
  refine does_run (v := .slice (some ⟨w.heap.size, 0, none⟩) m.toNat m.toNat) (w' := w.alloc (.cells (madeCells z.cells (m.toNat * i.size)) e)) ?_ ?_
  · unfold execOp; simp only [ho, (avr_int hX).1, (avr_int hY).1]
    rw [Sem.run_bind, hr]; rfl
  · have hl : (madeCells z.cells (m.toNat * i.size)).toList = (List.replicate m.toNat z.cells.toList).flatten := by rw [his, ← hzs]; exact made_rows _ _
    refine new_row (cells := (madeCells z.cells (m.toNat * i.size)).toList) c (below_alloc _) ⟨by simp [size_madeCells, his], .inr ⟨w.heap.size, m.toNat, _, by simp, Nat.le_refl _, heap_alloc_new w _, by simp, by simp [maxLen]; omega, by rw [size_madeCells, his], ?_⟩⟩ ?_
    · rw [List.length_replicate, List.take_of_length_le]
      simp [size_madeCells, his]
    · intro _
      rw [hl]
      exact rows_rep (hrd _ _) _

/-! Aggregates. -/
theorem splice_one (A : List Value) (i n : Nat) (v : Value) (h : i < A.length) : (A.set i v).take (i + 1) = A.take i ++ [v] ∧ (A.set i v).drop (i + 1 + n) = A.drop (i + (n + 1)) := by
  rw [List.set_eq_take_append_cons_drop, if_pos h]
  have hl : (A.take i ++ [v]).length = i + 1 := by simp; omega
  rw [show A.take i ++ v :: A.drop (i + 1) = (A.take i ++ [v]) ++ A.drop (i + 1) by simp]
  constructor
  · rw [← hl, List.take_left]
  · rw [← List.drop_drop, ← hl, List.drop_left, List.drop_drop]
    congr 1; omega
theorem foldl_set (off : Nat) : ∀ (vs : List Value) (k : Nat) (cells : Array Value), off + k + vs.length ≤ cells.size →
    ((vs.zipIdx k).foldl (fun (cs : Array Value) (x : Value × Nat) => cs.setIfInBounds (off + x.2) x.1) cells).toList = cells.toList.take (off + k) ++ vs ++ cells.toList.drop (off + k + vs.length)
  | [], k, cells, h => by simp
  | v :: vs, k, cells, h => by
    simp only [List.zipIdx_cons, List.foldl_cons]
    simp only [List.length_cons] at h
    rw [foldl_set off vs (k + 1) _ (by simp; omega), Array.toList_setIfInBounds]
    obtain ⟨h1, h2⟩ := splice_one cells.toList (off + k) vs.length v (by simp; omega)
    rw [show off + (k + 1) = off + k + 1 by omega, h1, h2]
    simp
/-- The parts of an aggregate are filled in. -/
theorem fill_ok (h0 : HOK P B M hp ψ w) (hlh : ∀ l ob, lh l = some ob → hp l = some ob) (place : Nat → Option (Nat × Nat)) : ∀ (ps : List (Nat × Ty)) (idx : List Nat) (as' : List AV) (vs : List Value) (cs cs' : List AV) (cells : Array Value),
    fillx lh cs ps as' = some cs' → AVRs P hp ψ w (Mu M hp ψ) as' vs → AVRs P hp ψ w (Mu M hp ψ) cs cells.toList → (∀ u ∈ cells.toList, u.oneCell' = true) → idx.length = ps.length → (∀ (j i : Nat) (p : Nat × Ty), idx[j]? = some i → ps[j]? = some p → place i = some (p.1, p.2.size)) →
    ∃ cells', Instr.fill place cells (idx.zip vs) = some cells' ∧ AVRs P hp ψ w (Mu M hp ψ) cs' cells'.toList ∧ ∀ u ∈ cells'.toList, u.oneCell' = true
  | [], idx, as', vs, cs, cs', cells, h, hv, hc, h1, hl, _ => by
    cases as' with
    | nil =>
      simp only [fillx, Option.some.injEq] at h
      subst h
      obtain rfl : vs = [] := hv
      exact ⟨cells, by simp [Instr.fill], hc, h1⟩
    | cons x r => simp [fillx] at h
  | (off, t) :: ps, idx, as', vs, cs, cs', cells, h, hv, hc, h1, hl, hpl => by
    cases as' with
    | nil => simp [fillx] at h
    | cons x r =>
      cases idx with
      | nil => simp at hl
      | cons i idx =>
        obtain ⟨v, vs', rfl, q1, q2⟩ := hv
        simp only [fillx] at h
        split at h
        · rename_i ns hns
          split at h
          · rename_i hle
            obtain ⟨n1, n2⟩ := cellsOf_ok h0 hlh hns q1
            have hn : v.cells.size = ns.length := by have := n1.len; simpa using this
            have hcl : cells.size = cs.length := by have := hc.len; simpa using this
            have hp0 := hpl 0 i (off, t) rfl rfl
            have hfold : ((v.cells.zipIdx.foldl (fun (cs : Array Value) (x : Value × Nat) => cs.setIfInBounds (off + x.2) x.1) cells)).toList = cells.toList.take off ++ v.cells.toList ++ cells.toList.drop (off + v.cells.toList.length) := by
              have := foldl_set off v.cells.toList 0 cells (by simp; omega)
              rw [← Array.foldl_toList, Array.toList_zipIdx]
              simpa using this
            obtain ⟨cells', k1, k2, k3⟩ := fill_ok h0 hlh place ps idx r vs' (splice cs off ns) cs' (v.cells.zipIdx.foldl (fun (cs : Array Value) (x : Value × Nat) => cs.setIfInBounds (off + x.2) x.1) cells) h q2
              (by rw [hfold]; exact splice_r hc n1)
              (by
                rw [hfold]
                intro u hu
                simp only [List.mem_append] at hu
                rcases hu with (hu | hu) | hu
                · exact h1 u (List.mem_of_mem_take hu)
                · exact n2 u hu
                · exact h1 u (List.mem_of_mem_drop hu))
              (by simpa using hl) (fun j i' p h2 h3 => hpl (j + 1) i' p (by simpa using h2) (by simpa using h3))
            refine ⟨cells', ?_, k2, k3⟩
            simp only [List.zip_cons_cons, Instr.fill, hp0]
            rw [if_neg (by simp; omega)]
            exact k1
          · cases h
        · cases h
theorem partsOk_spec {T : TypeId} {t : Ty} {fs : Array Field} (hu : P.underlying T = some (.struct fs)) : ∀ (parts : List (Nat × Operand)) (ps : List (Nat × Ty)), partsOk P T t parts ps = true →
    parts.length = ps.length ∧ ∀ (j i : Nat) (p : Nat × Ty), (parts.map (·.1))[j]? = some i → ps[j]? = some p → ∃ x : Field, fs[i]? = some x ∧ x.offset = p.1 ∧ (P.info? x.type).map (·.size) = some p.2.size
  | [], [], _ => ⟨rfl, fun j i p h => by simp at h⟩
  | (f, y) :: r, (off, ty) :: s, h => by
    simp only [partsOk, Bool.and_eq_true] at h
    obtain ⟨h1, h2⟩ := partsOk_spec hu r s h.2
    refine ⟨by simp [h1], fun j i p k1 k2 => ?_⟩
    cases j with
    | zero =>
      simp at k1 k2
      subst k1 k2
      obtain ⟨fs', x, q1, q2, q3, q4, _⟩ := fieldOk_spec h.1
      rw [hu] at q1
      injection q1 with q1; injection q1 with q1; subst q1
      exact ⟨x, q2, q3, tyOk_size q4⟩
    | succ j => exact h2 j i p (by simpa using k1) (by simpa using k2)
  | [], _ :: _, h => by simp [partsOk] at h
  | _ :: _, [], h => by simp [partsOk] at h
end
end T
end Go.Proofs.Ytecmckoglgdicaa
