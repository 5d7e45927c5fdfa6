/- Typed abstract walk, part 9: each operation does what the walk says (4): new blocks. -/
import Derived.Test.YtbbpiihbhdagnaaT8
import Derived.Maps.RangeRun
namespace Go.Proofs.Ytbbpiihbhdagnaa
set_option linter.unusedVariables false
set_option linter.unusedSimpArgs false
open Go.RowKit
namespace T
section
variable {P : Program} {B : Nat} {M : Nat → Prop} {hp lh : Hp} {ψ : Nat → Value} {w w' : World} {fr : Nat} {C : List Ent} {o : Oper} {a : Act}
theorem zero_rd {M' : Nat → Prop} : ∀ {t : Ty} {cs r : List Value}, zeroOk t cs = some r → ∃ c, cs = c ++ r ∧ Rd P t w M' t.dflt c
  | .bool, cs, r, h => by
    cases cs with
    | nil => simp [zeroOk] at h
    | cons v vs =>
      cases v <;> simp [zeroOk] at h
      obtain ⟨rfl, rfl⟩ := h
      exact ⟨[_], rfl, rfl⟩
  | .int k, cs, r, h => by
    cases cs with
    | nil => simp [zeroOk] at h
    | cons v vs =>
      cases v <;> simp [zeroOk] at h
      obtain ⟨⟨rfl, rfl⟩, rfl⟩ := h
      refine ⟨[_], rfl, rfl, ?_⟩
      show IntKind.min _ ≤ 0 ∧ 0 ≤ IntKind.max _
      rename_i k; cases k <;> decide
  | .str, cs, r, h => by
    cases cs with
    | nil => simp [zeroOk] at h
    | cons v vs =>
      cases v <;> simp [zeroOk] at h
      obtain ⟨rfl, rfl⟩ := h
      exact ⟨[_], rfl, rfl, by simp [Ty.dflt, maxLen]⟩
  | .sl t, cs, r, h => by
    cases cs with
    | nil => simp [zeroOk] at h
    | cons v vs =>
      cases v <;> (try (simp [zeroOk] at h; done))
      rename_i A n c
      cases A <;> cases n <;> cases c <;> simp [zeroOk] at h
      subst h
      exact ⟨[_], rfl, none, 0, 0, rfl, rfl, Nat.le_refl _, Nat.zero_le _, .inl rfl⟩
  | .st t, cs, r, h => zero_rd (t := t) h
  | .nil, cs, r, h => by simp [zeroOk] at h; subst h; exact ⟨[], rfl, rfl⟩
  | .cons x y, cs, r, h => by
    unfold zeroOk at h
    split at h
    · rename_i r' h'
      obtain ⟨c1, rfl, q1⟩ := zero_rd (t := x) h'
      obtain ⟨c2, rfl, q2⟩ := zero_rd (t := y) h
      exact ⟨c1 ++ c2, by simp, c1, c2, rfl, q1, q2⟩
    · cases h
  | .ptr _, cs, r, h => by cases cs <;> simp [zeroOk] at h
  | .fn _ _, cs, r, h => by cases cs <;> simp [zeroOk] at h
  | .fn2 _ _ _, cs, r, h => by cases cs <;> simp [zeroOk] at h
  | .mp _ _, cs, r, h => by cases cs <;> simp [zeroOk] at h
theorem zero_avs {M' : Nat → Prop} : ∀ {t : Ty} {cs r : List Value}, zeroOk t cs = some r → ∃ c, cs = c ++ r ∧ AVRs P hp ψ w M' (zeroAV t) c
  | .sl t, cs, r, h => by
    cases cs with
    | nil => simp [zeroOk] at h
    | cons v vs =>
      cases v <;> (try (simp [zeroOk] at h; done))
      rename_i A n c
      cases A <;> cases n <;> cases c <;> simp [zeroOk] at h
      subst h
      exact ⟨[_], rfl, _, _, rfl, rfl, rfl⟩
  | .st t, cs, r, h => zero_avs (t := t) h
  | .nil, cs, r, h => by simp [zeroOk] at h; subst h; exact ⟨[], rfl, rfl⟩
  | .cons x y, cs, r, h => by
    unfold zeroOk at h
    split at h
    · rename_i r' h'
      obtain ⟨c1, rfl, q1⟩ := zero_avs (t := x) h'
      obtain ⟨c2, rfl, q2⟩ := zero_avs (t := y) h
      exact ⟨c1 ++ c2, by simp, q1.append q2⟩
    · cases h
  | .bool, cs, r, h => by obtain ⟨c, e, q⟩ := zero_rd (P := P) (w := w) (M' := M') h; exact ⟨c, e, scatter_r q⟩
  | .int k, cs, r, h => by obtain ⟨c, e, q⟩ := zero_rd (P := P) (w := w) (M' := M') h; exact ⟨c, e, scatter_r q⟩
  | .str, cs, r, h => by obtain ⟨c, e, q⟩ := zero_rd (P := P) (w := w) (M' := M') h; exact ⟨c, e, scatter_r q⟩
  | .ptr _, cs, r, h => by cases cs <;> simp [zeroOk] at h
  | .fn _ _, cs, r, h => by cases cs <;> simp [zeroOk] at h
  | .fn2 _ _ _, cs, r, h => by cases cs <;> simp [zeroOk] at h
  | .mp _ _, cs, r, h => by cases cs <;> simp [zeroOk] at h
theorem zeroIs_avs {T : TypeId} {t : Ty} (h : zeroIs P T t = true) : ∃ i z, P.info? T = some i ∧ i.zero = some z ∧ (∀ w M', Rd P t w M' t.dflt z.cells.toList) ∧ ∀ hp ψ w M', AVRs P hp ψ w M' (zeroAV t) z.cells.toList := by
  unfold zeroIs at h
  split at h
  · rename_i i hi
    split at h
    · rename_i z hz
      split at h
      · rename_i h0
        refine ⟨i, z, hi, hz, fun w M' => ?_, fun hp ψ w M' => ?_⟩
        · obtain ⟨c, e, q⟩ := zero_rd (P := P) (w := w) (M' := M') h0
          rw [e, List.append_nil]; exact q
        · obtain ⟨c, e, q⟩ := zero_avs (P := P) (hp := hp) (ψ := ψ) (w := w) (M' := M') h0
          rw [e, List.append_nil]; exact q
      · cases h
    · cases h
  · cases h
theorem zeroIs_spec {T : TypeId} {t : Ty} (h : zeroIs P T t = true) : ∃ i z, P.info? T = some i ∧ i.zero = some z ∧ ∀ w M', Rd P t w M' t.dflt z.cells.toList := by
  unfold zeroIs at h
  split at h
  · rename_i i hi
    split at h
    · rename_i z hz
      split at h
      · rename_i h0
        refine ⟨i, z, hi, hz, fun w M' => ?_⟩
        obtain ⟨c, e, q⟩ := zero_rd (P := P) (w := w) (M' := M') h0
        rw [e, List.append_nil]; exact q
      · cases h
    · cases h
  · cases h
theorem below_alloc (o : Obj) : Below w.heap.size w (w.alloc o) := (Below.refl _ _).alloc (Nat.le_refl _) o
theorem size_alloc (o : Obj) : (w.alloc o).heap.size = w.heap.size + 1 := by simp
/-- A new variable. -/
theorem new_box {T : TypeId} {cs : List AV} {cells : Array Value} (c : Ctx P B M hp ψ w fr) (hf : fr ∉ AV.locsL cs) (h : AVRs P hp ψ w (Mu M hp ψ) cs cells.toList) (h1 : ∀ u ∈ cells.toList, u.oneCell' = true)
    (hr : (execOp a.eval o).run P w = .ok (.value (.pointer (some ⟨w.heap.size, 0, none⟩))) (w.alloc (.cells cells T))) : Does P o a w (OpPost P B M hp ψ w fr ⟨.ptr fr 0, [], some (fr, .box T cs)⟩) := by
  refine does_run hr (c.fresh (u := .pointer (some ⟨w.heap.size, 0, none⟩)) (below_alloc _) ?_ ?_ ?_)
  · intro b hb
    simp only [blk, Option.some.injEq] at hb; subst hb
    rw [size_alloc]; omega
  · intro hl
    refine ⟨w.heap.size, cells, by simp, c.hok.bz, heap_alloc_new w _, ?_, h1⟩
    refine AVRs.later (fr := fr) hl (fun l h => upd'_other _ _ h) (fun l ob' hl h => ?_) hf h
    rw [putHp_other _ _ hl] at h
    exact ⟨ob', (kill_some h).2, like_refl _⟩
  · intro _ ob _
    exact ⟨w.heap.size, by simp, rfl⟩
theorem scatter_locs (t : Ty) : ∀ (d : t.den) (z : Nat), z ∉ AV.locsL (scatter t d) := fun d z => by
  have : cellsOf (fun _ => none) (.val t d) = some (scatter t d) := rfl
  exact cellsOf_locs this (by simp [AV.locs])
theorem zeroAV_locs : ∀ (t : Ty) (z : Nat), z ∉ AV.locsL (zeroAV t)
  | .st t, z => zeroAV_locs t z
  | .nil, z => by simp [zeroAV, AV.locsL]
  | .cons a b, z => by
    have ha := zeroAV_locs a z
    have hb := zeroAV_locs b z
    have app : ∀ xs ys : List AV, z ∉ AV.locsL xs → z ∉ AV.locsL ys → z ∉ AV.locsL (xs ++ ys) := by
      intro xs ys h1 h2
      induction xs with
      | nil => exact h2
      | cons x r ih =>
        simp only [List.cons_append, AV.locsL, List.mem_append, not_or] at h1 ⊢
        exact ⟨h1.1, ih h1.2⟩
    exact app _ _ ha hb
  | .sl _, z => by simp [zeroAV, AV.locsL, AV.locs]
  | .bool, z => scatter_locs .bool _ z
  | .int k, z => scatter_locs (.int k) _ z
  | .str, z => scatter_locs .str _ z
  | .ptr t, z => scatter_locs (.ptr t) _ z
  | .fn a r, z => scatter_locs (.fn a r) _ z
  | .fn2 a b r, z => scatter_locs (.fn2 a b r) _ z
  | .mp k t, z => scatter_locs (.mp k t) _ z
theorem alloc_ok {T : TypeId} {t : Ty} (ho : o.op = .alloc T) (hT : zeroIs P T t = true) (c : Ctx P B M hp ψ w fr) : Does P o a w (OpPost P B M hp ψ w fr ⟨.ptr fr 0, [], some (fr, .box T (zeroAV t))⟩) := by
  obtain ⟨i, z, hi, hz, hrd, hav⟩ := zeroIs_avs hT
  refine new_box c (zeroAV_locs t _) (hav hp ψ w _) (hrd w (Mu M hp ψ)).one ?_
  unfold execOp
  simp [ho, Instr.alloc, zeroValue, typeInfo, hi, hz, newVar, newRow]
theorem allocz_ok {T : TypeId} {m : Bool} (ho : o.op = .alloc T) (hT : zeroNil P T m = true) (c : Ctx P B M hp ψ w fr) : Does P o a w (OpPost P B M hp ψ w fr ⟨.ptr fr 0, [], some (fr, .box T [.cst (nilOf m)])⟩) := by
  unfold zeroNil at hT
  split at hT
  case h_2 => cases hT
  rename_i i hi
  obtain ⟨hz, hc⟩ : i.zero = some (nilOf m) ∧ (nilOf m).cells = #[nilOf m] := by
    split at hT
    · rename_i q1; exact ⟨q1, rfl⟩
    · rename_i q1; exact ⟨q1, rfl⟩
    · cases hT
  refine new_box (cs := [.cst (nilOf m)]) (cells := #[nilOf m]) c (by simp [AV.locsL, AV.locs]) ⟨_, _, rfl, rfl, rfl⟩ (fun u hu => by simp at hu; subst hu; cases m <;> rfl) ?_
  unfold execOp
  simp [ho, Instr.alloc, zeroValue, typeInfo, hi, hz, hc, newVar, newRow]
theorem box_ok {T : TypeId} {X : Operand} {x : AV} {cs : List AV} (ho : o.op = .box T X) (hlh : ∀ l ob, lh l = some ob → hp l = some ob) (hX : AVR P hp ψ w (Mu M hp ψ) x (a.eval X)) (hf : fr ∉ x.locs) (h : cellsOf lh x = some cs) (c : Ctx P B M hp ψ w fr) :
    Does P o a w (OpPost P B M hp ψ w fr ⟨.ptr fr 0, [], some (fr, .box T cs)⟩) := by
  obtain ⟨h1, h2⟩ := cellsOf_ok c.hok hlh h hX
  refine new_box c (cellsOf_locs h hf) h1 h2 ?_
  unfold execOp
  simp [ho, Instr.box, newVar, newRow]
/-- A new row. -/
theorem new_row {e : TypeId} {t : Ty} {xs : List t.den} {v : Value} {ks : List Nat} {cells : List Value} (c : Ctx P B M hp ψ w fr) (hb : Below w.heap.size w w') (hown : w'.ownsRow w.heap.size e t.size v xs.length cells)
    (hrow : Later w (Mu M hp ψ) w' (Mu M (putHp (kill hp ks) fr (.row e t xs)) (upd' ψ fr v)) → RowsBy (fun x c => Rd P t w' (Mu M (putHp (kill hp ks) fr (.row e t xs)) (upd' ψ fr v)) x c) xs cells) :
    OpPost P B M hp ψ w fr ⟨.own fr, ks, some (fr, .row e t xs)⟩ v w' := by
  refine c.fresh (u := v) hb (fun b hb => ownsRow_blk hown hb) (fun hl => ⟨cells, ?_, hrow hl⟩) (fun _ ob _ => by simp)
  rw [upd'_same]
  obtain ⟨h1, h2⟩ := hown
  refine ⟨h1, ?_⟩
  rcases h2 with h2 | ⟨g, cap, cur, q1, q2, r⟩
  · exact .inl h2
  · exact .inr ⟨g, cap, cur, q1, Nat.le_trans c.hok.bz q2, r⟩
theorem nilrow_ok {e : TypeId} {t : Ty} {X : Operand} (ho : o.op = .move X ∨ o.op = .assign X) (hX : X = .const (.slice none 0 0)) (c : Ctx P B M hp ψ w fr) : Does P o a w (OpPost P B M hp ψ w fr ⟨.own fr, [], some (fr, .row e t [])⟩) := by
  subst hX
  refine does_run (v := .slice none 0 0) (w' := w) ?_ (new_row (cells := []) c (Below.refl _ _) ⟨by simp, .inl ⟨rfl, rfl⟩⟩ fun _ => rfl)
  unfold execOp
  rcases ho with ho | ho <;> (simp only [ho]; rfl)
theorem made_rows (z : Array Value) (n : Nat) : (madeCells z (n * z.size)).toList = (List.replicate n z.toList).flatten := by
  unfold madeCells
  induction n with
  | zero => simp
  | succ n ih =>
    rw [Array.toList_map, Array.toList_range] at ih ⊢
    rw [Nat.succ_mul, Nat.add_comm (n * z.size), List.range_add, List.map_append, List.replicate_succ, List.flatten_cons, ← ih, List.map_map]
    congr 1
    · apply List.ext_getElem
      · simp
      · intro i h1 h2
        simp only [List.length_map, List.length_range] at h1
        simp [Nat.mod_eq_of_lt h1, h1]
    · apply List.map_congr_left
      intro i _
      simp
theorem rows_rep {t : Ty} {M' : Nat → Prop} {d : t.den} {c : List Value} (h : Rd P t w M' d c) : ∀ n, RowsBy (fun x c => Rd P t w M' x c) (List.replicate n d) (List.replicate n c).flatten
  | 0 => rfl
  | n + 1 => ⟨c, (List.replicate n c).flatten, by simp [List.replicate_succ], h, rows_rep h n⟩
theorem mkslice_ok {T e : TypeId} {t : Ty} {bytes : Nat} {X Y : Operand} {k k' : IntKind} {n m : Int} (ho : o.op = .makeSlice T X Y) (hT : elemOk P T e t = true) (hz : zeroIs P e t = true) (hb : (P.info? e).map (·.bytes) = some bytes) (hb0 : bytes ≠ 0)
    (hX : AVR P hp ψ w (Mu M hp ψ) (.val (.int k) n) (a.eval X)) (hY : AVR P hp ψ w (Mu M hp ψ) (.val (.int k') m) (a.eval Y)) (hp' : 0 ≤ n ∧ m = n ∧ (bytes : Int) * n ≤ 140737488355328) (c : Ctx P B M hp ψ w fr) :
    Does P o a w (OpPost P B M hp ψ w fr ⟨.own fr, [], some (fr, .row e t (List.replicate n.toNat t.dflt))⟩) := by
  obtain ⟨h0, rfl, h2⟩ := hp'
  obtain ⟨hu, i, hi, his⟩ := elemOk_spec hT
  obtain ⟨i', z, hi', hz', hrd⟩ := zeroIs_spec hz
  rw [hi] at hi'; injection hi' with hi'; subst hi'
  rw [hi] at hb
  simp only [Option.map_some, Option.some.injEq] at hb
  have hzs : z.cells.size = t.size := by have := (hrd w (fun _ => False)).len; simpa using this
  have hm : m ≤ 140737488355328 := by
    have : (1 : Int) ≤ bytes := by omega
    have := Int.mul_le_mul_of_nonneg_right this h0
    omega
  have hr := run_make (P := P) w T e i z hu hi hz' k k' m m h0 (Int.le_refl _) (by rw [hb]; omega) (by omega)
  refine does_run (v := .slice (some ⟨w.heap.size, 0, none⟩) m.toNat m.toNat) (w' := w.alloc (.cells (madeCells z.cells (m.toNat * i.size)) e)) ?_ ?_
  · unfold execOp; simp only [ho, (avr_int hX).1, (avr_int hY).1]
    rw [Sem.run_bind, hr]; rfl
  · have hl : (madeCells z.cells (m.toNat * i.size)).toList = (List.replicate m.toNat z.cells.toList).flatten := by rw [his, ← hzs]; exact made_rows _ _
    refine new_row (cells := (madeCells z.cells (m.toNat * i.size)).toList) c (below_alloc _) ⟨by simp [size_madeCells, his], .inr ⟨w.heap.size, m.toNat, _, by simp, Nat.le_refl _, heap_alloc_new w _, by simp, by simp [maxLen]; omega, by rw [size_madeCells, his], ?_⟩⟩ ?_
    · rw [List.length_replicate, List.take_of_length_le]
      simp [size_madeCells, his]
    · intro _
      rw [hl]
      exact rows_rep (hrd _ _) _

theorem avrs_rep {hp : Hp} {ψ : Nat → Value} {M' : Nat → Prop} {v : Value} : ∀ n, AVRs P hp ψ w M' (List.replicate n (.cst v)) (List.replicate n [v]).flatten
  | 0 => rfl
  | n + 1 => ⟨v, (List.replicate n [v]).flatten, by simp [List.replicate_succ], rfl, avrs_rep n⟩
theorem locsL_rep {v : Value} : ∀ n, AV.locsL (List.replicate n (.cst v)) = []
  | 0 => rfl
  | n + 1 => by rw [List.replicate_succ, AV.locsL, locsL_rep n]; rfl
theorem mkarr_ok {T e : TypeId} {bytes : Nat} {X Y : Operand} {k k' : IntKind} {n m : Int} (ho : o.op = .makeSlice T X Y) (hT : elemOk P T e .bool = true) (hz : zeroRow P e = true) (hb : (P.info? e).map (·.bytes) = some bytes) (hb0 : bytes ≠ 0)
    (hX : AVR P hp ψ w (Mu M hp ψ) (.val (.int k) n) (a.eval X)) (hY : AVR P hp ψ w (Mu M hp ψ) (.val (.int k') m) (a.eval Y)) (hp' : 0 ≤ n ∧ m = n ∧ (bytes : Int) * n ≤ 140737488355328) (c : Ctx P B M hp ψ w fr) :
    Does P o a w (OpPost P B M hp ψ w fr ⟨.arr fr n.toNat, [], some (fr, .box e (List.replicate n.toNat (.cst (.slice none 0 0))))⟩) := by
  obtain ⟨h0, rfl, h2⟩ := hp'
  obtain ⟨hu, i, hi, his⟩ := elemOk_spec hT
  have hz' : i.zero = some (.slice none 0 0) := by
    unfold zeroRow at hz
    rw [hi] at hz
    dsimp only at hz
    split at hz
    · assumption
    · cases hz
  rw [hi] at hb
  simp only [Option.map_some, Option.some.injEq] at hb
  have hm : m ≤ 140737488355328 := by
    have : (1 : Int) ≤ bytes := by omega
    have := Int.mul_le_mul_of_nonneg_right this h0
    omega
  have hr := run_make (P := P) w T e i (.slice none 0 0) hu hi hz' k k' m m h0 (Int.le_refl _) (by rw [hb]; omega) (by omega)
  have his1 : i.size = 1 := his
  refine does_run (v := .slice (some ⟨w.heap.size, 0, none⟩) m.toNat m.toNat) (w' := w.alloc (.cells (madeCells (Value.slice none 0 0).cells (m.toNat * i.size)) e)) ?_ ?_
  · unfold execOp; simp only [ho, (avr_int hX).1, (avr_int hY).1]
    rw [Sem.run_bind, hr]; rfl
  · have hl : (madeCells (Value.slice none 0 0).cells (m.toNat * i.size)).toList = (List.replicate m.toNat [Value.slice none 0 0]).flatten := by rw [his1]; exact made_rows (Value.slice none 0 0).cells m.toNat
    refine c.fresh (u := .pointer (some ⟨w.heap.size, 0, none⟩)) (below_alloc _) ?_ ?_ ?_
    · intro b hb
      simp only [blk, Option.some.injEq] at hb; subst hb
      rw [size_alloc]; omega
    · intro _
      refine ⟨w.heap.size, _, by simp, c.hok.bz, heap_alloc_new w _, ?_, ?_⟩
      · rw [hl]; exact avrs_rep _
      · rw [hl]; intro u hu; simp at hu; rw [hu.2]; rfl
    · intro _ ob _
      exact ⟨w.heap.size, _, by simp, rfl, Nat.le_refl _, by simp [maxLen]; omega⟩

/-! Aggregates. -/
theorem splice_one (A : List Value) (i n : Nat) (v : Value) (h : i < A.length) : (A.set i v).take (i + 1) = A.take i ++ [v] ∧ (A.set i v).drop (i + 1 + n) = A.drop (i + (n + 1)) := by
  rw [List.set_eq_take_append_cons_drop, if_pos h]
  have hl : (A.take i ++ [v]).length = i + 1 := by simp; omega
  rw [show A.take i ++ v :: A.drop (i + 1) = (A.take i ++ [v]) ++ A.drop (i + 1) by simp]
  constructor
  · rw [← hl, List.take_left]
  · rw [← List.drop_drop, ← hl, List.drop_left, List.drop_drop]
    congr 1; omega
theorem foldl_set (off : Nat) : ∀ (vs : List Value) (k : Nat) (cells : Array Value), off + k + vs.length ≤ cells.size →
    ((vs.zipIdx k).foldl (fun (cs : Array Value) (x : Value × Nat) => cs.setIfInBounds (off + x.2) x.1) cells).toList = cells.toList.take (off + k) ++ vs ++ cells.toList.drop (off + k + vs.length)
  | [], k, cells, h => by simp
  | v :: vs, k, cells, h => by
    simp only [List.zipIdx_cons, List.foldl_cons]
    simp only [List.length_cons] at h
    rw [foldl_set off vs (k + 1) _ (by simp; omega), Array.toList_setIfInBounds]
    obtain ⟨h1, h2⟩ := splice_one cells.toList (off + k) vs.length v (by simp; omega)
    rw [show off + (k + 1) = off + k + 1 by omega, h1, h2]
    simp
/-- The parts of an aggregate are filled in. -/
theorem fill_ok (h0 : HOK P B M hp ψ w) (hlh : ∀ l ob, lh l = some ob → hp l = some ob) (place : Nat → Option (Nat × Nat)) : ∀ (ps : List (Nat × Ty)) (idx : List Nat) (as' : List AV) (vs : List Value) (cs cs' : List AV) (cells : Array Value),
    fillx lh cs ps as' = some cs' → AVRs P hp ψ w (Mu M hp ψ) as' vs → AVRs P hp ψ w (Mu M hp ψ) cs cells.toList → (∀ u ∈ cells.toList, u.oneCell' = true) → idx.length = ps.length → (∀ (j i : Nat) (p : Nat × Ty), idx[j]? = some i → ps[j]? = some p → place i = some (p.1, p.2.size)) →
    ∃ cells', Instr.fill place cells (idx.zip vs) = some cells' ∧ AVRs P hp ψ w (Mu M hp ψ) cs' cells'.toList ∧ ∀ u ∈ cells'.toList, u.oneCell' = true
  | [], idx, as', vs, cs, cs', cells, h, hv, hc, h1, hl, _ => by
    cases as' with
    | nil =>
      simp only [fillx, Option.some.injEq] at h
      subst h
      obtain rfl : vs = [] := hv
      exact ⟨cells, by simp [Instr.fill], hc, h1⟩
    | cons x r => simp [fillx] at h
  | (off, t) :: ps, idx, as', vs, cs, cs', cells, h, hv, hc, h1, hl, hpl => by
    cases as' with
    | nil => simp [fillx] at h
    | cons x r =>
      cases idx with
      | nil => simp at hl
      | cons i idx =>
        obtain ⟨v, vs', rfl, q1, q2⟩ := hv
        simp only [fillx] at h
        split at h
        · rename_i ns hns
          split at h
          · rename_i hle
            obtain ⟨n1, n2⟩ := cellsOf_ok h0 hlh hns q1
            have hn : v.cells.size = ns.length := by have := n1.len; simpa using this
            have hcl : cells.size = cs.length := by have := hc.len; simpa using this
            have hp0 := hpl 0 i (off, t) rfl rfl
            have hfold : ((v.cells.zipIdx.foldl (fun (cs : Array Value) (x : Value × Nat) => cs.setIfInBounds (off + x.2) x.1) cells)).toList = cells.toList.take off ++ v.cells.toList ++ cells.toList.drop (off + v.cells.toList.length) := by
              have := foldl_set off v.cells.toList 0 cells (by simp; omega)
              rw [← Array.foldl_toList, Array.toList_zipIdx]
              simpa using this
            obtain ⟨cells', k1, k2, k3⟩ := fill_ok h0 hlh place ps idx r vs' (splice cs off ns) cs' (v.cells.zipIdx.foldl (fun (cs : Array Value) (x : Value × Nat) => cs.setIfInBounds (off + x.2) x.1) cells) h q2
              (by rw [hfold]; exact splice_r hc n1)
              (by
                rw [hfold]
                intro u hu
                simp only [List.mem_append] at hu
                rcases hu with (hu | hu) | hu
                · exact h1 u (List.mem_of_mem_take hu)
                · exact n2 u hu
                · exact h1 u (List.mem_of_mem_drop hu))
              (by simpa using hl) (fun j i' p h2 h3 => hpl (j + 1) i' p (by simpa using h2) (by simpa using h3))
            refine ⟨cells', ?_, k2, k3⟩
            simp only [List.zip_cons_cons, Instr.fill, hp0]
            rw [if_neg (by simp; omega)]
            exact k1
          · cases h
        · cases h
theorem partsOk_spec {T : TypeId} {t : Ty} {fs : Array Field} (hu : P.underlying T = some (.struct fs)) : ∀ (parts : List (Nat × Operand)) (ps : List (Nat × Ty)), partsOk P T t parts ps = true →
    parts.length = ps.length ∧ ∀ (j i : Nat) (p : Nat × Ty), (parts.map (·.1))[j]? = some i → ps[j]? = some p → ∃ x : Field, fs[i]? = some x ∧ x.offset = p.1 ∧ (P.info? x.type).map (·.size) = some p.2.size
  | [], [], _ => ⟨rfl, fun j i p h => by simp at h⟩
  | (f, y) :: r, (off, ty) :: s, h => by
    simp only [partsOk, Bool.and_eq_true] at h
    obtain ⟨h1, h2⟩ := partsOk_spec hu r s h.2
    refine ⟨by simp [h1], fun j i p k1 k2 => ?_⟩
    cases j with
    | zero =>
      simp at k1 k2
      subst k1 k2
      obtain ⟨fs', x, q1, q2, q3, q4, _⟩ := fieldOk_spec h.1
      rw [hu] at q1
      injection q1 with q1; injection q1 with q1; subst q1
      exact ⟨x, q2, q3, tyOk_size q4⟩
    | succ j => exact h2 j i p (by simpa using k1) (by simpa using k2)
  | [], _ :: _, h => by simp [partsOk] at h
  | _ :: _, [], h => by simp [partsOk] at h
/-! Structs that are compared. -/
theorem part_rd {M' : Nat → Prop} {T : TypeId} {t : Ty} (hT : tyOk P T t = true) {pre cc post : List Value} {cs : Array Value} (e : cs.toList = pre ++ cc ++ post) {x : t.den} (q : Rd P t w M' x cc) {o : Nat} (ho : pre.length = o) :
    ∃ v, (part T cs o).run P w = .ok v w ∧ RdV P t w M' x v := by
  subst ho
  obtain ⟨r1, r2⟩ := run_part_of (w := w) hT e q.len
  cases hs : t.isSt with
  | true => exact ⟨_, r1 hs, shape_agg hs, by simpa [Value.cells] using q⟩
  | false =>
    obtain ⟨h3, _, _⟩ := tyOk_one (w := w) hT hs
    have hl := q.len
    rw [h3] at hl
    obtain ⟨u, rfl⟩ := List.length_eq_one_iff.1 hl
    have h1 := q.one u (by simp)
    refine ⟨u, r2 hs u rfl, ?_, ?_⟩
    · unfold Ty.shape; rw [hs]; cases u <;> simp_all [Value.oneCell']
    · have : u.cells = #[u] := by cases u <;> simp_all [Value.cells, Value.oneCell']
      rw [this]; exact q
theorem eqFs_ok {M' : Nat → Prop} {E : Ty → TypeId → Bool} {d : Nat} (hE : ∀ t T, E t T = true → ∀ (x y : t.den) v u, RdV P t w M' x v → RdV P t w M' y u → (Op.equalIn d T v u).run P w = .ok (eqd t x y) w) :
    ∀ (fs : List Field) (t : Ty) (o : Nat), eqFs P E t fs o = true → ∀ (x y : t.den) (p1 c1 p2 c2 : List Value) (xs ys : Array Value), xs.toList = p1 ++ c1 → ys.toList = p2 ++ c2 → p1.length = o → p2.length = o →
      Rd P t w M' x c1 → Rd P t w M' y c2 → (Op.eqFields d xs ys fs).run P w = .ok (eqd t x y) w := by
  have one : ∀ (f : Field) (fs : List Field) (t : Ty) (o : Nat), (f.name != "_" && f.offset == o && tyOk P f.type t && E t f.type) = true → ∀ (x y : t.den) (p1 c1 r1 p2 c2 r2 : List Value) (xs ys : Array Value), xs.toList = p1 ++ c1 ++ r1 → ys.toList = p2 ++ c2 ++ r2 → p1.length = o → p2.length = o →
      Rd P t w M' x c1 → Rd P t w M' y c2 → (Op.eqFields d xs ys (f :: fs)).run P w = if eqd t x y then (Op.eqFields d xs ys fs).run P w else .ok false w := by
    intro f fs t o h x y p1 c1 r1 p2 c2 r2 xs ys e1 e2 o1 o2 q1 q2
    simp only [Bool.and_eq_true, bne_iff_ne, beq_iff_eq, ne_eq] at h
    obtain ⟨⟨⟨hn, ho⟩, hT⟩, hEt⟩ := h
    obtain ⟨v, k1, k2⟩ := part_rd (w := w) hT e1 q1 o1
    obtain ⟨u, k3, k4⟩ := part_rd (w := w) hT e2 q2 o2
    simp only [Op.eqFields, hn, ne_eq, not_false_eq_true, if_true, Sem.run_bind, ho, k1, k3, hE t f.type hEt x y v u k2 k4, Result.andThen_ok]
    cases eqd t x y <;> simp
  intro fs
  induction fs with
  | nil =>
    intro t o h x y p1 c1 p2 c2 xs ys e1 e2 o1 o2 q1 q2
    cases t <;> simp [eqFs] at h
    simp [Op.eqFields, eqd]
  | cons f fs ih =>
    intro t o h x y p1 c1 p2 c2 xs ys e1 e2 o1 o2 q1 q2
    have last : ∀ (t : Ty), fs = [] → (f.name != "_" && f.offset == o && tyOk P f.type t && E t f.type) = true → ∀ (x y : t.den), Rd P t w M' x c1 → Rd P t w M' y c2 → (Op.eqFields d xs ys (f :: fs)).run P w = .ok (eqd t x y) w := by
      intro t hf h x y q1 q2
      rw [one f fs t o h x y p1 c1 [] p2 c2 [] xs ys (by simpa using e1) (by simpa using e2) o1 o2 q1 q2, hf]
      cases eqd t x y <;> simp [Op.eqFields]
    cases t with
    | cons a b =>
      cases fs with
      | nil => exact last (.cons a b) rfl (by simpa [eqFs] using h) x y q1 q2
      | cons g fs =>
        simp only [eqFs] at h
        rw [Bool.and_eq_true] at h
        obtain ⟨h1, h2⟩ := h
        obtain ⟨c11, c12, rfl, m1, m2⟩ := q1
        obtain ⟨c21, c22, rfl, m3, m4⟩ := q2
        rw [one f (g :: fs) a o h1 x.1 y.1 p1 c11 c12 p2 c21 c22 xs ys (by rw [e1, List.append_assoc]) (by rw [e2, List.append_assoc]) o1 o2 m1 m3]
        rw [ih b (o + a.size) h2 x.2 y.2 (p1 ++ c11) c12 (p2 ++ c21) c22 xs ys (by rw [e1, List.append_assoc]) (by rw [e2, List.append_assoc]) (by simp [o1, m1.len]) (by simp [o2, m3.len]) m2 m4]
        simp only [eqd]
        cases eqd a x.1 y.1 <;> simp
    | nil => simp [eqFs] at h
    | bool => cases fs with
      | nil => exact last _ rfl (by simpa [eqFs] using h) x y q1 q2
      | cons _ _ => simp [eqFs] at h
    | int k => cases fs with
      | nil => exact last _ rfl (by simpa [eqFs] using h) x y q1 q2
      | cons _ _ => simp [eqFs] at h
    | str => cases fs with
      | nil => exact last _ rfl (by simpa [eqFs] using h) x y q1 q2
      | cons _ _ => simp [eqFs] at h
    | sl t => cases fs with
      | nil => exact last _ rfl (by simpa [eqFs] using h) x y q1 q2
      | cons _ _ => simp [eqFs] at h
    | ptr t => cases fs with
      | nil => exact last _ rfl (by simpa [eqFs] using h) x y q1 q2
      | cons _ _ => simp [eqFs] at h
    | st t => cases fs with
      | nil => exact last _ rfl (by simpa [eqFs] using h) x y q1 q2
      | cons _ _ => simp [eqFs] at h
    | fn a r => cases fs with
      | nil => exact last _ rfl (by simpa [eqFs] using h) x y q1 q2
      | cons _ _ => simp [eqFs] at h
    | fn2 a b r => cases fs with
      | nil => exact last _ rfl (by simpa [eqFs] using h) x y q1 q2
      | cons _ _ => simp [eqFs] at h
    | mp k t => cases fs with
      | nil => exact last _ rfl (by simpa [eqFs] using h) x y q1 q2
      | cons _ _ => simp [eqFs] at h
theorem eqTy_ok {M' : Nat → Prop} (d : Nat) : ∀ (n : Nat) (t : Ty) (T : TypeId), eqTy P n t T = true → ∀ (x y : t.den) v u, RdV P t w M' x v → RdV P t w M' y u → (Op.equalIn (d + n) T v u).run P w = .ok (eqd t x y) w
  | 0, _, _, h => by simp [eqTy] at h
  | n + 1, t, T, h => by
    intro x y v u q1 q2
    cases t with
    | bool =>
      simp only [eqTy] at h
      split at h
      · rename_i hu
        have e1 := (RdV.one q1 rfl rfl).1
        have e2 := (RdV.one q2 rfl rfl).1
        simp only [Rd, List.cons.injEq, and_true] at e1 e2
        rw [e1, e2, show d + (n + 1) = (d + n) + 1 from rfl]
        exact run_equalIn_bool' w _ T x y hu
      · cases h
    | int k =>
      simp only [eqTy] at h
      split at h
      · rename_i k' hu
        have e1 := (RdV.one q1 rfl rfl).1.1
        have e2 := (RdV.one q2 rfl rfl).1.1
        simp only [List.cons.injEq, and_true] at e1 e2
        rw [e1, e2, show d + (n + 1) = (d + n) + 1 from rfl]
        exact run_equalIn_int w _ T k k' x y hu
      · cases h
    | str =>
      simp only [eqTy] at h
      split at h
      · rename_i hu
        have e1 := (RdV.one q1 rfl rfl).1.1
        have e2 := (RdV.one q2 rfl rfl).1.1
        simp only [List.cons.injEq, and_true] at e1 e2
        rw [e1, e2, show d + (n + 1) = (d + n) + 1 from rfl]
        exact run_equalIn_string w _ T x y hu
      · cases h
    | st t =>
      simp only [eqTy] at h
      split at h
      · rename_i fs hu
        simp only [Bool.and_eq_true, Bool.not_eq_true'] at h
        obtain ⟨xs, rfl⟩ := q1.1.2 rfl
        obtain ⟨ys, rfl⟩ := q2.1.2 rfl
        have hf : P.fieldsOf T = fs := by simp [Program.fieldsOf, hu]
        rw [show d + (n + 1) = (d + n) + 1 from rfl, run_equalIn_struct w (d + n) T xs ys (by rw [hf]; exact hu) h.1, hf]
        have r1 : Rd P t w M' x xs.toList := q1.2
        have r2 : Rd P t w M' y ys.toList := q2.2
        exact eqFs_ok (fun t T h x y v u k1 k2 => eqTy_ok d n t T h x y v u k1 k2) fs.toList t 0 h.2 x y [] xs.toList [] ys.toList xs ys rfl rfl rfl rfl r1 r2
      · cases h
    | _ => simp [eqTy] at h
theorem steq_ok {op : BinOp} {neg : Bool} {t : Ty} {T : TypeId} {X Y : Operand} {yt : TypeId} {x y : AV} {b : Bool} (ho : o.op = .binOp op T X Y yt) (hop : op = if neg then .neq else .eql) (hst : t.isSt = true) (hT : eqTy P 50 t T = true) (hg : P.eqGuardType P.depth T = false)
    (hlh : ∀ l ob, lh l = some ob → hp l = some ob) (hX : AVR P hp ψ w (Mu M hp ψ) x (a.eval X)) (hY : AVR P hp ψ w (Mu M hp ψ) y (a.eval Y)) (h : eqsx lh t x y = some b) (c : Ctx P B M hp ψ w fr) : Does P o a w (OpPost P B M hp ψ w fr (pur (.val .bool (if neg then !b else b)))) := by
  subst hop
  unfold eqsx at h
  split at h
  · rename_i d1 ls h1
    split at h
    · rename_i d2 ms h2
      injection h with h; subst h
      have r1 := rd_ok c.hok hlh h1 hX (ls' := ls ++ ms) (fun _ h => by simp [h])
      have r2 := rd_ok c.hok hlh h2 hY (ls' := ls ++ ms) (fun _ h => by simp [h])
      obtain ⟨xs, ex⟩ := r1.1.2 hst
      obtain ⟨ys, ey⟩ := r2.1.2 hst
      have he := eqTy_ok (w := w) 9950 50 t T hT d1 d2 _ _ r1 r2
      rw [ex, ey] at he
      refine does_run ?_ (c.pure bool_avr)
      have hgd : ∀ op', (eqGuard op' T X Y (.agg xs) (.agg ys)).run P w = .ok () w := fun op' => run_eqGuard_agg w op' T X Y xs ys hg
      have he' : (Op.equal T (.agg xs) (.agg ys)).run P w = .ok (eqd t d1 d2) w := he
      cases neg <;> (unfold execOp; simp only [ho, ex, ey, if_true, if_false, Bool.false_eq_true]; simp [binOp, hgd, he'])
    · cases h
  · cases h
/-! Maps. -/
theorem run_zero {E : TypeId} {z : Value} (h : (P.info? E).bind (·.zero) = some z) : (zeroValue E).run P w = .ok z w := by
  obtain ⟨i, hi, hz⟩ := Option.bind_eq_some_iff.1 h
  simp [zeroValue, typeInfo, hi, hz]
theorem mapOk_spec {T : TypeId} {k : IntKind} {t : Ty} (h : mapOk P T k t = true) : ∃ K E, P.underlying T = some (.map K E) ∧ P.underlying K = some (.int k) ∧ (∀ w : World, (zeroValue E).run P w = .ok (mval t t.dflt) w) ∧ mOk t t.dflt ∧ t.isSt = false := by
  unfold mapOk at h
  split at h
  · rename_i K E hu
    simp only [Bool.and_eq_true] at h
    obtain ⟨h1, h2⟩ := h
    refine ⟨K, E, hu, ?_, ?_⟩
    · split at h1
      · rename_i k' hk; simp only [beq_iff_eq] at h1; rw [hk, h1]
      · cases h1
    · split at h2
      · rename_i hz; exact ⟨fun w => run_zero hz, trivial, rfl⟩
      · rename_i q n q' hz
        simp only [Bool.and_eq_true, beq_iff_eq] at h2
        obtain ⟨rfl, rfl⟩ := h2
        exact ⟨fun w => run_zero hz, by show q.min ≤ 0 ∧ 0 ≤ q.max; cases q <;> decide, rfl⟩
      · rename_i s hz
        simp only [beq_iff_eq] at h2
        have : s = ByteArray.empty := by
          obtain ⟨⟨l⟩⟩ := s
          have : l.length = 0 := h2
          rw [List.length_eq_zero_iff] at this
          subst this; rfl
        subst this
        exact ⟨fun w => run_zero hz, Nat.zero_le _, rfl⟩
      · cases h2
  · cases h
theorem mval_rd {M' : Nat → Prop} {t : Ty} {d : t.den} (h : mOk t d) : RdV P t w M' d (mval t d) := by
  cases t <;> simp only [mOk] at h <;> (try exact h.elim)
  · exact ⟨by unfold Ty.shape Ty.isSt; simp [mval], rfl⟩
  · exact ⟨by unfold Ty.shape Ty.isSt; simp [mval], rfl, h⟩
  · exact ⟨by unfold Ty.shape Ty.isSt; simp [mval], rfl, h⟩
theorem rd_mval {M' : Nat → Prop} {t : Ty} {d d0 : t.den} {v : Value} (h0 : mOk t d0) (h : RdV P t w M' d v) : v = mval t d ∧ mOk t d := by
  cases t <;> simp only [mOk] at h0 <;> (try exact h0.elim)
  · have := (RdV.one h rfl rfl).1
    simp only [Rd, List.cons.injEq, and_true] at this
    exact ⟨this, trivial⟩
  · have := (RdV.one h rfl rfl).1
    exact ⟨(List.cons.inj this.1).1, this.2⟩
  · have := (RdV.one h rfl rfl).1
    exact ⟨(List.cons.inj this.1).1, this.2⟩
theorem findNow_map {k : IntKind} {t : Ty} (i : Int) (z : Value) : ∀ (es : List MapEntry) (xs : List (Int × t.den)) (j : Nat), es.map (fun x => (x.key, x.val)) = xs.map (fun p => (Value.int k p.1, mval t p.2)) →
    (Instr.findNow (.int k) (.int k i) es j = some none ∧ mhas xs i = false ∧ (∀ e ∈ es, e.key ≠ .int k i) ∧ (∀ d, mget d xs i = d) ∧ ∀ d, mset xs i d = xs ++ [(i, d)]) ∨
    ∃ m, Instr.findNow (.int k) (.int k i) es j = some (some (j + m, mval t (mget t.dflt xs i))) ∧ mhas xs i = true ∧ (∃ e, es[m]? = some e ∧ e.key = .int k i) ∧ (∃ p ∈ xs, p.2 = mget t.dflt xs i) ∧ ∀ d, mset xs i d = xs.set m (i, d)
  | [], xs, j, h => by
    cases xs with
    | nil => exact .inl ⟨rfl, rfl, fun e he => (by cases he), fun _ => rfl, fun _ => rfl⟩
    | cons _ _ => simp at h
  | e :: es, xs, j, h => by
    cases xs with
    | nil => simp at h
    | cons p xs =>
      simp only [List.map_cons, List.cons.injEq, Prod.mk.injEq] at h
      obtain ⟨⟨h1, h2⟩, h3⟩ := h
      by_cases c : p.1 = i
      · refine .inr ⟨0, ?_, by simp [mhas, c], ⟨e, rfl, by rw [h1, c]⟩, ⟨p, by simp, by simp [mget, c]⟩, fun d => by simp [mset, c]⟩
        simp [Instr.findNow, Instr.sameNow, h1, h2, c, mget]
      · have hs : Instr.sameNow (.int k) (.int k i) e.key = some false := by
          rw [h1]; simp [Instr.sameNow]; exact fun e => c e.symm
        rcases findNow_map (k := k) i z es xs (j + 1) h3 with ⟨k1, k2, k3, k4, k5⟩ | ⟨m, k1, k2, ⟨e', k3, k3'⟩, ⟨q, k4, k4'⟩, k5⟩
        · refine .inl ⟨by simp [Instr.findNow, hs, k1], by simp [mhas, c, k2], ?_, fun d => by simp [mget, c, k4], fun d => by simp [mset, c, k5]⟩
          intro x hx
          rcases List.mem_cons.1 hx with rfl | hx
          · rw [h1]; simp [c]
          · exact k3 x hx
        · refine .inr ⟨m + 1, ?_, by simp [mhas, c, k2], ⟨e', by simpa using k3, k3'⟩, ⟨q, by simp [k4], by simp [mget, c, k4']⟩, fun d => by simp [mset, c, k5]⟩
          simp [Instr.findNow, hs, k1, mget, c]; omega
theorem keyOf'_some {k : IntKind} {b : AV} {i : Int} (h : keyOf' k b = some i) : b = .val (.int k) i := by
  unfold keyOf' at h
  split at h
  · split at h
    · rename_i e; injection h with h; subst h e; rfl
    · cases h
  · cases h
theorem mapOf_some {k : IntKind} {t : Ty} {x : AV} {l : Nat} {xs : List (Int × t.den)} (h : mapOf lh k t x = some (l, xs)) : x = .own l ∧ lh l = some (.mp k t xs) := by
  unfold mapOf at h
  split at h
  · rename_i l0
    split at h
    · rename_i k' t' ys hl
      obtain ⟨zs, hz, e⟩ := Option.map_eq_some_iff.1 h
      simp only [Prod.mk.injEq] at e
      obtain ⟨rfl, rfl⟩ := e
      obtain ⟨q, q'⟩ := cast?_some hz
      simp only [Ty.sl.injEq, Ty.cons.injEq, Ty.int.injEq] at q
      obtain ⟨rfl, rfl⟩ := q
      simp only at q'; subst q'
      exact ⟨rfl, hl⟩
    · cases h
  · cases h
theorem mkmap_ok {T : TypeId} {k : IntKind} {t : Ty} (ho : o.op = .makeMap T none) (c : Ctx P B M hp ψ w fr) : Does P o a w (OpPost P B M hp ψ w fr ⟨.own fr, [], some (fr, .mp k t [])⟩) := by
  refine does_run (v := .map (some w.heap.size)) (w' := w.alloc (.map #[] 0)) (by unfold execOp; simp [ho, Instr.makeMap]) (c.fresh (u := .map (some w.heap.size)) (below_alloc _) ?_ ?_ ?_)
  · intro b hb
    simp only [blk, Option.some.injEq] at hb; subst hb
    rw [size_alloc]; omega
  · intro _
    exact ⟨w.heap.size, #[], 0, by simp, c.hok.bz, heap_alloc_new w _, Go.MapKept.stamped_empty 0, rfl, fun p hp => by cases hp⟩
  · intro _ ob _; simp
theorem mapget_ok {T : TypeId} {k : IntKind} {t : Ty} {ok : Bool} {X I : Operand} {x b : AV} {l : Nat} {xs : List (Int × t.den)} {i : Int} (ho : o.op = .lookup T X I ok) (hT : mapOk P T k t = true) (hlh : ∀ l ob, lh l = some ob → hp l = some ob)
    (hX : AVR P hp ψ w (Mu M hp ψ) x (a.eval X)) (hI : AVR P hp ψ w (Mu M hp ψ) b (a.eval I)) (h1 : mapOf lh k t x = some (l, xs)) (h2 : keyOf' k b = some i) (c : Ctx P B M hp ψ w fr) :
    Does P o a w (OpPost P B M hp ψ w fr (pur (if ok then .tup [.val t (mget t.dflt xs i), .val .bool (mhas xs i)] else .val t (mget t.dflt xs i)))) := by
  obtain ⟨K, E, u1, u2, u3, u4, u5⟩ := mapOk_spec hT
  obtain ⟨rfl, hl⟩ := mapOf_some h1
  obtain rfl := keyOf'_some h2
  have hl' := hlh _ _ hl
  obtain ⟨r, es, clock, e1, hB, hg, hst, hes, hval⟩ := c.hok.ob l _ hl'
  have eX := hX _ hl'
  rw [e1] at eX
  have eI : a.eval I = .int k i := by have := (RdV.one hI rfl rfl).1.1; simpa using this
  have hk : Go.MapKept.IsKey (.int k) (.int k i) := rfl
  have hv : mOk t (mget t.dflt xs i) := by
    rcases findNow_map (k := k) i undef es.toList xs 0 hes with ⟨_, _, _, k4, _⟩ | ⟨m, _, _, _, ⟨q, k4, k4'⟩, _⟩
    · rw [k4]; exact u4
    · rw [← k4']; exact (hval q k4).2
  have run : (Instr.lookup T (a.eval X) (a.eval I) ok).run P w = .ok (if ok then .tuple #[mval t (mget t.dflt xs i), .bool (mhas xs i)] else mval t (mget t.dflt xs i)) w := by
    rw [eX, eI]
    rcases findNow_map (k := k) i undef es.toList xs 0 hes with ⟨k1, k2, _, k4, _⟩ | ⟨m, k1, k2, _, _, _⟩
    · unfold Instr.lookup
      simp [run_underlying u1, Go.MapKept.run_getObj_map hg, Go.MapKept.run_checkKey u2 hk, Go.MapKept.run_findKey u2 k1, u3, k2, k4, Result.andThen]
    · unfold Instr.lookup
      simp [run_underlying u1, Go.MapKept.run_getObj_map hg, Go.MapKept.run_checkKey u2 hk, Go.MapKept.run_findKey u2 k1, k2, Result.andThen]
  refine does_run (v := if ok then .tuple #[mval t (mget t.dflt xs i), .bool (mhas xs i)] else mval t (mget t.dflt xs i)) (w' := w) (by unfold execOp; simp [ho, run]) (c.pure ?_)
  cases ok with
  | true => exact ⟨_, rfl, _, _, rfl, mval_rd hv, _, _, rfl, bool_avr, rfl⟩
  | false => exact mval_rd hv
theorem mapset_ok {T : TypeId} {k : IntKind} {t : Ty} {X I Y : Operand} {x b : AV} {l : Nat} {xs : List (Int × t.den)} {i : Int} {d : t.den} (ho : o.op = .mapUpdate T X I Y ∨ o.op = .insert T X I Y) (hT : mapOk P T k t = true) (hlh : ∀ l ob, lh l = some ob → hp l = some ob)
    (hX : AVR P hp ψ w (Mu M hp ψ) x (a.eval X)) (hI : AVR P hp ψ w (Mu M hp ψ) b (a.eval I)) (hY : AVR P hp ψ w (Mu M hp ψ) (.val t d) (a.eval Y)) (h1 : mapOf lh k t x = some (l, xs)) (h2 : keyOf' k b = some i) (c : Ctx P B M hp ψ w fr) :
    Does P o a w (OpPost P B M hp ψ w fr ⟨.top, [], some (l, .mp k t (mset xs i d))⟩) := by
  obtain ⟨K, E, u1, u2, u3, u4, u5⟩ := mapOk_spec hT
  obtain ⟨rfl, hl⟩ := mapOf_some h1
  obtain rfl := keyOf'_some h2
  have hl' := hlh _ _ hl
  obtain ⟨r, es, clock, e1, hB, hg, hst, hes, hval⟩ := c.hok.ob l _ hl'
  have eX := hX _ hl'
  rw [e1] at eX
  have eI := (RdV.one hI rfl rfl).1
  obtain ⟨eI, hkr⟩ := eI
  simp only [List.cons.injEq, and_true] at eI
  obtain ⟨eY, hd⟩ := rd_mval u4 hY
  have hk : Go.MapKept.IsKey (.int k) (.int k i) := rfl
  have hval' : ∀ p ∈ mset xs i d, (k.min ≤ p.1 ∧ p.1 ≤ k.max) ∧ mOk t p.2 := by
    rcases findNow_map (k := k) i undef es.toList xs 0 hes with ⟨_, _, _, _, k5⟩ | ⟨m, _, _, _, _, k5⟩
    · rw [k5]
      intro p hp
      rcases List.mem_append.1 hp with hp | hp
      · exact hval p hp
      · simp only [List.mem_singleton] at hp; subst hp; exact ⟨hkr, hd⟩
    · rw [k5]
      intro p hp
      rcases List.mem_or_eq_of_mem_set hp with hp | rfl
      · exact hval p hp
      · exact ⟨hkr, hd⟩
  obtain ⟨es', clock', run, hst', hes'⟩ : ∃ es' clock', (Instr.mapUpdate T (a.eval X) (a.eval I) (a.eval Y)).run P w = .ok () { w with heap := w.heap.setIfInBounds r (.map es' clock') } ∧ Go.MapKept.Stamped es' clock' ∧
      es'.toList.map (fun x => (x.key, x.val)) = (mset xs i d).map (fun p => (Value.int k p.1, mval t p.2)) := by
    rw [eX, eI, eY]
    rcases findNow_map (k := k) i undef es.toList xs 0 hes with ⟨k1, _, k3, _, k5⟩ | ⟨m, k1, _, ⟨e, k3, k3'⟩, _, k5⟩
    · refine ⟨es.push { key := .int k i, val := mval t d, born := clock }, clock + 1, by simp [Instr.mapUpdate, run_underlying u1, Go.MapKept.run_getObj_map hg, Go.MapKept.run_checkKey u2 hk, Go.MapKept.run_findKey u2 k1, Go.MapKept.run_setObj_map _ hg, Result.andThen], Go.MapKept.stamped_push hst k3, ?_⟩
      rw [k5, Array.toList_push, List.map_append, List.map_append, hes]; rfl
    · have hj : es[m]? = some e := by simpa using k3
      have hm : m < es.size := (Array.getElem?_eq_some_iff.1 hj).1
      rw [Nat.zero_add] at k1
      refine ⟨es.modify m fun e => { e with key := .int k i, val := mval t d }, clock, by simp [Instr.mapUpdate, run_underlying u1, Go.MapKept.run_getObj_map hg, Go.MapKept.run_checkKey u2 hk, Go.MapKept.run_findKey u2 k1, hj, k3', Go.MapKept.run_keyThatStays hk, Go.MapKept.run_setObj_map _ hg, Result.andThen], Go.MapKept.stamped_modify hst _ _ (fun _ _ => rfl) (fun e' _ he' => by rw [hj] at he'; cases he'; exact k3'.symm), ?_⟩
      rw [k5, List.map_set, ← hes]
      apply List.ext_getElem?
      intro j
      rw [List.getElem?_map, Array.getElem?_toList, Array.getElem?_modify, List.getElem?_set]
      by_cases hjm : m = j
      · subst hjm
        have hm2 : m < es.toList.length := by simpa using hm
        simp [hj, hm]
      · simp [hjm]
  have hrun : (execOp a.eval o).run P w = .ok .skip { w with heap := w.heap.setIfInBounds r (.map es' clock') } := by
    unfold execOp
    rcases ho with ho | ho <;> simp [ho, run]
  refine does_skip hrun (c.write hl' ⟨rfl, rfl⟩ (by simp) rfl rfl rfl (by simp) (fun b hb hne => ?_) (fun _ => ?_) (fun _ => trivial))
  · exact (Go.MapKept.heap_set hg).2 b fun e => hne (by rw [e1, e]; rfl)
  · exact ⟨r, es', clock', e1, hB, (Go.MapKept.heap_set hg).1, hst', hes', hval'⟩
theorem findNow_mapd {k : IntKind} {t : Ty} (i : Int) : ∀ (es : List MapEntry) (xs : List (Int × t.den)) (j : Nat), es.map (fun x => (x.key, x.val)) = xs.map (fun p => (Value.int k p.1, mval t p.2)) →
    (Instr.findNow (.int k) (.int k i) es j = some none ∧ mdel xs i = xs) ∨ ∃ m v, Instr.findNow (.int k) (.int k i) es j = some (some (j + m, v)) ∧ m < es.length ∧ mdel xs i = xs.eraseIdx m
  | [], xs, j, h => by
    cases xs with
    | nil => exact .inl ⟨rfl, rfl⟩
    | cons _ _ => simp at h
  | e :: es, xs, j, h => by
    cases xs with
    | nil => simp at h
    | cons p xs =>
      simp only [List.map_cons, List.cons.injEq, Prod.mk.injEq] at h
      obtain ⟨⟨h1, h2⟩, h3⟩ := h
      by_cases c : p.1 = i
      · refine .inr ⟨0, mval t p.2, ?_, by simp, by simp [mdel, c]⟩
        simp [Instr.findNow, Instr.sameNow, h1, h2, c]
      · have hs : Instr.sameNow (.int k) (.int k i) e.key = some false := by
          rw [h1]; simp [Instr.sameNow]; exact fun e => c e.symm
        rcases findNow_mapd (k := k) i es xs (j + 1) h3 with ⟨k1, k2⟩ | ⟨m, v, k1, k2, k3⟩
        · exact .inl ⟨by simp [Instr.findNow, hs, k1], by simp [mdel, c, k2]⟩
        · refine .inr ⟨m + 1, v, ?_, by simpa using k2, by simp [mdel, c, k3]⟩
          simp [Instr.findNow, hs, k1]; omega
theorem mapdel_ok {T : TypeId} {k : IntKind} {t : Ty} {X I : Operand} {ts : Array TypeId} {x b : AV} {l : Nat} {xs : List (Int × t.den)} {i : Int} (ho : o.op = .call ⟨.builtin .delete, #[X, I], ts⟩) (hts : ts[0]? = some T) (hT : mapOk P T k t = true) (hlh : ∀ l ob, lh l = some ob → hp l = some ob)
    (hX : AVR P hp ψ w (Mu M hp ψ) x (a.eval X)) (hI : AVR P hp ψ w (Mu M hp ψ) b (a.eval I)) (h1 : mapOf lh k t x = some (l, xs)) (h2 : keyOf' k b = some i) (c : Ctx P B M hp ψ w fr) :
    Does P o a w (OpPost P B M hp ψ w fr ⟨.top, [], some (l, .mp k t (mdel xs i))⟩) := by
  obtain ⟨K, E, u1, u2, u3, u4, u5⟩ := mapOk_spec hT
  obtain ⟨rfl, hl⟩ := mapOf_some h1
  obtain rfl := keyOf'_some h2
  have hl' := hlh _ _ hl
  obtain ⟨r, es, clock, e1, hB, hg, hst, hes, hval⟩ := c.hok.ob l _ hl'
  have eX := hX _ hl'
  rw [e1] at eX
  have eI : a.eval I = .int k i := by have := (RdV.one hI rfl rfl).1.1; simpa using this
  have hk : Go.MapKept.IsKey (.int k) (.int k i) := rfl
  obtain ⟨es', run, hst', hes', hval'⟩ : ∃ es', (Builtin.delete_ ts o.type #[a.eval X, a.eval I]).run P w = .ok (.tuple #[]) { w with heap := w.heap.setIfInBounds r (.map es' clock) } ∧ Go.MapKept.Stamped es' clock ∧
      es'.toList.map (fun x => (x.key, x.val)) = (mdel xs i).map (fun p => (Value.int k p.1, mval t p.2)) ∧ ∀ p ∈ mdel xs i, (k.min ≤ p.1 ∧ p.1 ≤ k.max) ∧ mOk t p.2 := by
    rw [eX, eI]
    rcases findNow_mapd (k := k) i es.toList xs 0 hes with ⟨k1, k2⟩ | ⟨m, v, k1, k2, k3⟩
    · refine ⟨es, by simp [Builtin.delete_, hts, run_underlying u1, Go.MapKept.run_getObj_map hg, Go.MapKept.run_checkKey u2 hk, Go.MapKept.run_findKey u2 k1, Go.MapKept.run_setObj_map _ hg, Result.andThen], hst, by rw [k2]; exact hes, by rw [k2]; exact hval⟩
    · rw [Nat.zero_add] at k1
      refine ⟨es.eraseIdxIfInBounds m, by simp [Builtin.delete_, hts, run_underlying u1, Go.MapKept.run_getObj_map hg, Go.MapKept.run_checkKey u2 hk, Go.MapKept.run_findKey u2 k1, Go.MapKept.run_setObj_map _ hg, Result.andThen], Go.MapKept.stamped_erase hst m, ?_, ?_⟩
      · have hm : m < es.size := by simpa using k2
        rw [k3]
        have e : (es.eraseIdxIfInBounds m).toList = es.toList.eraseIdx m := by
          unfold Array.eraseIdxIfInBounds
          rw [dif_pos hm, Array.toList_eraseIdx]
        rw [e, List.eraseIdx_eq_take_drop_succ, List.eraseIdx_eq_take_drop_succ, List.map_append, List.map_append, List.map_take, List.map_drop, List.map_take, List.map_drop, hes]
      · rw [k3]
        exact fun p hp => hval p ((List.eraseIdx_sublist xs m).subset hp)
  have hrun : (execOp a.eval o).run P w = .ok (.value (.tuple #[])) { w with heap := w.heap.setIfInBounds r (.map es' clock) } := by
    unfold execOp
    simp only [ho]
    simp [resolve, invoke, builtin, run]
  refine does_run hrun (c.write hl' ⟨rfl, rfl⟩ (by simp) rfl rfl rfl (by simp) (fun b hb hne => ?_) (fun _ => ?_) (fun _ => trivial))
  · exact (Go.MapKept.heap_set hg).2 b fun e => hne (by rw [e1, e]; rfl)
  · exact ⟨r, es', clock, e1, hB, (Go.MapKept.heap_set hg).1, hst', hes', hval'⟩
theorem leftOf_none {es : Array MapEntry} : leftOf es #[] = es := by
  unfold leftOf
  rw [Array.filter_eq_self]
  intro x _
  simp
theorem left_push {es : Array MapEntry} {seen : Array Nat} {b : Nat} : (leftOf es (seen.push b)).toList = (leftOf es seen).toList.filter fun x => !(x.born == b) := by
  unfold leftOf
  rw [Array.toList_filter, Array.toList_filter, List.filter_filter]
  congr 1
  funext x
  rw [contains_push]
  cases seen.contains x.born <;> cases (x.born == b) <;> rfl
theorem filter_erase : ∀ {l : List MapEntry} {i : Nat} {e : MapEntry}, (l.map (·.born)).Nodup → l[i]? = some e → (l.filter fun x => !(x.born == e.born)) = l.eraseIdx i
  | [], i, e, _, h => by simp at h
  | x :: l, 0, e, hn, h => by
    simp only [List.getElem?_cons_zero, Option.some.injEq] at h
    subst h
    have hn' : x.born ∉ l.map (·.born) ∧ (l.map (·.born)).Nodup := List.nodup_cons.1 hn
    rw [List.filter_cons_of_neg (by simp), List.eraseIdx_zero, List.tail_cons, List.filter_eq_self]
    intro y hy
    have : y.born ≠ x.born := fun q => hn'.1 (by rw [← q]; exact List.mem_map.2 ⟨y, hy, rfl⟩)
    simpa using this
  | x :: l, i + 1, e, hn, h => by
    have hn' : x.born ∉ l.map (·.born) ∧ (l.map (·.born)).Nodup := List.nodup_cons.1 hn
    have h' : l[i]? = some e := by simpa using h
    have : x.born ≠ e.born := fun q => hn'.1 (by rw [q]; exact List.mem_map.2 ⟨e, List.mem_of_getElem? h', rfl⟩)
    rw [List.filter_cons_of_pos (by simpa using this), filter_erase hn'.2 h', List.eraseIdx_cons_succ]
theorem mrange_ok {T : TypeId} {k : IntKind} {t : Ty} {X : Operand} {x : AV} {d : List (Int × t.den)} {ls : List Nat} (ho : o.op = .range T X) (hT : mapOk P T k t = true) (hlh : ∀ l ob, lh l = some ob → hp l = some ob)
    (hX : AVR P hp ψ w (Mu M hp ψ) x (a.eval X)) (h1 : rd lh (.mp k t) x = some (d, ls)) (c : Ctx P B M hp ψ w fr) : Does P o a w (OpPost P B M hp ψ w fr ⟨.ptr fr 0, ls, some (fr, .it k t d none)⟩) := by
  obtain ⟨K, E, u1, u2, u3, u4, u5⟩ := mapOk_spec hT
  obtain ⟨bm, es, clock, e0, hb, hm, hg, hst, hes, hval⟩ := (RdV.one (t := .mp k t) (rd_ok c.hok hlh h1 hX (ls' := ls) (fun _ h => h)) rfl rfl).1
  have e : a.eval X = .map (some bm) := by simpa using e0
  have hne : bm ≠ w.heap.size := Nat.ne_of_lt hb
  refine does_run (v := .pointer (some ⟨w.heap.size, 0, none⟩)) (w' := w.alloc (.mapIter (some bm) clock #[] clock)) (by unfold execOp; simp [ho, e, run_range_map w T K E bm es clock u1 hg]) (c.fresh (u := .pointer (some ⟨w.heap.size, 0, none⟩)) (below_alloc _) ?_ ?_ ?_)
  · intro b hb
    simp only [blk, Option.some.injEq] at hb; subst hb
    rw [size_alloc]; omega
  · intro hl
    refine ⟨w.heap.size, by simp, c.hok.bz, bm, clock, #[], clock, es, clock, heap_alloc_new w _, by rw [size_alloc]; omega, ?_, by rw [heap_alloc_old w _ hb]; exact hg, hst, hst.1, Nat.le_refl _, Nat.le_refl _, ?_, hval, fun p hp => by cases hp⟩
    · rintro (q | ⟨l', ob', q1, q2⟩)
      · exact hm (.inl q)
      · by_cases hf : l' = fr
        · subst hf
          rw [upd'_same] at q2
          simp only [blk, Option.some.injEq] at q2
          omega
        · rw [putHp_other _ _ hf] at q1
          rw [upd'_other _ _ hf] at q2
          exact hm (.inr ⟨l', ob', q1, q2⟩)
    · rw [leftOf_none]; exact hes
  · intro _ ob _
    exact ⟨w.heap.size, by simp, rfl⟩
theorem entry_ok {X : Operand} {l : Nat} {k : IntKind} {t : Ty} {left : List (Int × t.den)} {p : Int × t.den} (ho : o.op = .entry X) (hlh : ∀ l ob, lh l = some ob → hp l = some ob)
    (hX : AVR P hp ψ w (Mu M hp ψ) (.ptr l 0) (a.eval X)) (h1 : lh l = some (.it k t left (some p))) (c : Ctx P B M hp ψ w fr) : Does P o a w (OpPost P B M hp ψ w fr (pur (.tup [.val (.int k) p.1, .val t p.2]))) := by
  have hl := hlh _ _ h1
  obtain ⟨b, e, hB, bm, since, seen, c0, es, clock, q1, q2, q3, q4, q5, q6, q7, q8, q9, q10, q11⟩ := c.hok.ob l _ hl
  obtain ⟨⟨hk, hv⟩, seen', x, rfl, rfl, hx, ek, ev⟩ := q11 p rfl
  obtain ⟨b', e1, e2⟩ := hX _ hl
  rw [e] at e1
  simp only [Value.pointer.injEq, Option.some.injEq, Addr.mk.injEq, and_true] at e1
  subst e1
  have run := run_entry_at (P := P) w b bm since seen' es c0 x q1 q4 hx q5.2.1
  refine does_run (v := .tuple #[x.key, x.val]) (w' := w) (by unfold execOp; simp [ho, e2, run]) (c.pure ?_)
  rw [ek, ev]
  exact ⟨_, rfl, _, _, rfl, int_avr hk, _, _, rfl, mval_rd hv, rfl⟩
/-- The next step of a range over a map: nothing is left, or an entry that is left, whichever. -/
theorem next_ok {X : Operand} {l : Nat} {k : IntKind} {t : Ty} {left : List (Int × t.den)} {cur : Option (Int × t.den)} (ho : o.op = .next X false)
    (hX : AVR P hp ψ w (Mu M hp ψ) (.ptr l 0) (a.eval X)) (hl : hp l = some (.it k t left cur)) (c : Ctx P B M hp ψ w fr) : Does P o a w fun v w' =>
      (left = [] ∧ OpPost P B M hp ψ w fr (pur (.tup [.val .bool false])) v w') ∨
      ∃ i p, left[i]? = some p ∧ OpPost P B M hp ψ w fr ⟨.tup [.val .bool true, .val (.int k) p.1, .val t p.2], [], some (l, .it k t (left.eraseIdx i) (some p))⟩ v w' := by
  obtain ⟨b, e, hB, bm, since, seen, c0, es, clock, q1, q2, q3, q4, q5, q6, q7, q8, q9, q10, q11⟩ := c.hok.ob l _ hl
  obtain ⟨b', e1, e2⟩ := hX _ hl
  rw [e] at e1
  simp only [Value.pointer.injEq, Option.some.injEq, Addr.mk.injEq, and_true] at e1
  subst e1
  rcases run_next_at (P := P) w o.type b bm since c0 seen es clock q1 q4 q6 q7 with ⟨h0, run⟩ | ⟨x, hx, w1, hw1, run⟩
  · have hl0 : left = [] := by
      have : ((leftOf es seen).toList.map fun x => (x.key, x.val)).length = left.length := by rw [q9, List.length_map]
      rw [List.length_map, Array.length_toList, h0] at this
      exact List.eq_nil_of_length_eq_zero this.symm
    exact does_run (v := .tuple #[.bool false]) (w' := w) (by unfold execOp; simp [ho, e2, run]) (.inl ⟨hl0, c.pure ⟨_, rfl, _, _, rfl, bool_avr, rfl⟩⟩)
  · obtain ⟨i, hi⟩ := List.getElem?_of_mem hx
    have hpi : ∃ p, left[i]? = some p ∧ x.key = .int k p.1 ∧ x.val = mval t p.2 := by
      have h1 : ((leftOf es seen).toList.map fun x => (x.key, x.val))[i]? = some (x.key, x.val) := by rw [List.getElem?_map, hi]; rfl
      rw [q9, List.getElem?_map] at h1
      obtain ⟨p, hp', e3⟩ := Option.map_eq_some_iff.1 h1
      simp only [Prod.mk.injEq] at e3
      exact ⟨p, hp', e3.1.symm, e3.2.symm⟩
    obtain ⟨p, hp', ek, ev⟩ := hpi
    have hok := q10 p (List.mem_of_getElem? hp')
    have hmem := mem_left hx
    have hw : w1.os = w.os ∧ w1.tape = w.tape ∧ w1.output = w.output ∧ w1.heap = w.heap := by rcases hw1 with rfl | rfl <;> exact ⟨rfl, rfl, rfl, rfl⟩
    have hbs : b < w.heap.size := lt_of_block q1
    have hne : bm ≠ b := fun q => by rw [q, q1] at q4; cases q4
    have hhp : ∀ b2, b2 ≠ b → (Go.ChangeMaps.setBlock w1 b (.mapIter (some bm) since (seen.push x.born) clock)).heap[b2]? = w.heap[b2]? := fun b2 hb2 => by
      show (w1.heap.setIfInBounds b _)[b2]? = _
      rw [Array.getElem?_setIfInBounds_ne (Ne.symm hb2), hw.2.2.2]
    have hhs : (Go.ChangeMaps.setBlock w1 b (.mapIter (some bm) since (seen.push x.born) clock)).heap[b]? = some (.mapIter (some bm) since (seen.push x.born) clock) := by
      show (w1.heap.setIfInBounds b _)[b]? = _
      rw [hw.2.2.2]; simp [hbs]
    have hsz : (Go.ChangeMaps.setBlock w1 b (.mapIter (some bm) since (seen.push x.born) clock)).heap.size = w.heap.size := by
      show (w1.heap.setIfInBounds b _).size = _
      rw [Array.size_setIfInBounds, hw.2.2.2]
    refine does_run (v := .tuple #[.bool true, x.key, x.val]) (w' := Go.ChangeMaps.setBlock w1 b (.mapIter (some bm) since (seen.push x.born) clock)) (by unfold execOp; simp [ho, e2, run]) (.inr ⟨i, p, hp', c.write hl ⟨rfl, rfl⟩ (by simp) hw.1 hw.2.1 hw.2.2.1 (by rw [hsz]; exact Nat.le_refl _) (fun b2 hb2 hne2 => ?_) (fun hlt => ?_) (fun _ => ?_)⟩)
    · exact hhp b2 fun q => hne2 (by rw [e, q]; rfl)
    · have hnm : ¬ Mu M (putHp (kill hp []) l (.it k t (left.eraseIdx i) (some p))) ψ bm := fun q => q3 (hlt.sub bm q2 q)
      refine ⟨b, e, hB, bm, since, seen.push x.born, clock, es, clock, hhs, by rw [hsz]; exact q2, hnm, by rw [hhp bm hne]; exact q4, q5, q6, q8, q8, ?_, fun z hz => q10 z (List.mem_of_mem_eraseIdx hz), fun z hz => ?_⟩
      · have hn : ((leftOf es seen).toList.map (·.born)).Nodup := by
          unfold leftOf
          rw [Array.toList_filter]
          exact (List.filter_sublist.map _).nodup q5.2.1
        rw [left_push, filter_erase hn hi, List.eraseIdx_eq_take_drop_succ, List.eraseIdx_eq_take_drop_succ, List.map_append, List.map_append, List.map_take, List.map_drop, List.map_take, List.map_drop, q9]
      · injection hz with hz
        subst hz
        exact ⟨hok, seen, x, rfl, rfl, hmem.1, ek, ev⟩
    · rw [ek, ev]
      exact ⟨_, rfl, _, _, rfl, bool_avr, _, _, rfl, int_avr hok.1, _, _, rfl, mval_rd hok.2, rfl⟩
end
end T
end Go.Proofs.Ytbbpiihbhdagnaa
