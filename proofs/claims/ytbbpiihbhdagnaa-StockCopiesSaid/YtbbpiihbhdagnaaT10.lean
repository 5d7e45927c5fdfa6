/- Typed abstract walk, part 10: each operation does what the walk says (5): aggregates, appends, calls. -/
import Derived.Test.YtbbpiihbhdagnaaT9
namespace Go.Proofs.Ytbbpiihbhdagnaa
set_option linter.unusedVariables false
set_option linter.unusedSimpArgs false
open Go.RowKit
namespace T
section
variable {P : Program} {B : Nat} {M : Nat → Prop} {hp lh : Hp} {ψ : Nat → Value} {w w' : World} {fr : Nat} {C : List Ent} {o : Oper} {a : Act}
theorem zip_parts (f : Operand → Value) : ∀ parts : List (Nat × Operand), (parts.map (·.1)).zip ((parts.map (·.2)).map f) = parts.map fun x => (x.1, f x.2)
  | [] => rfl
  | p :: r => by simpa using zip_parts f r
theorem places_at : ∀ (fs : List Field) (places : List (Nat × Nat)), fs.mapM (fun f => (P.info? f.type).map fun i => (f.offset, i.size)) = some places →
    ∀ (i : Nat) (x : Field) (s : Nat), fs[i]? = some x → (P.info? x.type).map (·.size) = some s → places[i]? = some (x.offset, s)
  | [], places, h, i, x, s, h1, h2 => by simp at h1
  | f :: fs, places, h, i, x, s, h1, h2 => by
    simp only [List.mapM_cons, Option.bind_eq_bind, Option.pure_def] at h
    cases hi : P.info? f.type with
    | none => simp [hi] at h
    | some it =>
      cases hr : fs.mapM (fun f => (P.info? f.type).map fun i => (f.offset, i.size)) with
      | none => simp [hi, hr] at h
      | some rest =>
        simp [hi, hr] at h
        subst h
        cases i with
        | zero => simp at h1; subst h1; simp [hi] at h2; simp [h2]
        | succ i => simpa using places_at fs rest hr i x s (by simpa using h1) h2
theorem build_ok {T : TypeId} {t : Ty} {parts : Array (Nat × Operand)} {ps : List (Nat × Ty)} {avs cs : List AV} (ho : o.op = .build T parts) (hp1 : partsOk P T t parts.toList ps = true) (hp2 : placesOk P T = true) (hz : zeroIs P T t = true)
    (hlh : ∀ l ob, lh l = some ob → hp l = some ob) (hv : AVRs P hp ψ w (Mu M hp ψ) avs ((parts.toList.map (·.2)).map a.eval)) (h : fillx lh (zeroAV t) ps avs = some cs) (c : Ctx P B M hp ψ w fr) :
    Does P o a w (OpPost P B M hp ψ w fr (pur (.agg cs))) := by
  unfold placesOk at hp2
  split at hp2
  · rename_i fs hu
    obtain ⟨places, hpl⟩ := Option.isSome_iff_exists.1 hp2
    obtain ⟨i, z, hi, hz', hrd, hav⟩ := zeroIs_avs hz
    obtain ⟨k1, k2⟩ := partsOk_spec hu parts.toList ps hp1
    obtain ⟨cells', r1, r2, r3⟩ := fill_ok c.hok hlh (fun x => places.toArray[x]?) ps (parts.toList.map (·.1)) avs _ (zeroAV t) cs z.cells h hv (hav hp ψ w _) (hrd w (Mu M hp ψ)).one (by simpa using k1) (fun j i p q1 q2 => by
      obtain ⟨x, e1, e2, e3⟩ := k2 j i p q1 q2
      have := places_at fs.toList places hpl i x p.2.size (by simpa using e1) e3
      rw [← e2]; simpa using this)
    rw [zip_parts] at r1
    refine does_run ?_ (c.pure (av := .agg cs) ⟨cells', rfl, r2, r3⟩)
    unfold execOp; simp only [ho]
    rw [Sem.run_bind, run_build w T _ cells' (by
      unfold Program.built
      rw [hi, hu]
      simp only [hz', hpl]
      rw [← r1]; simp)]
    rfl
  · cases hp2
theorem rowfill_ok {t : Ty} (h0 : HOK P B M hp ψ w) (hlh : ∀ l ob, lh l = some ob → hp l = some ob) {ls' : List Nat} : ∀ (idx : List Nat) (avs : List AV) (vs : List Value) (xs xs' : List t.den) (ls : List Nat) (cells : Array Value),
    rowx lh t xs idx avs = some (xs', ls) → (∀ l ∈ ls, l ∈ ls') → AVRs P hp ψ w (Mu M hp ψ) avs vs → RowsBy (fun x c => Rd P t w (Mu M (kill hp ls') ψ) x c) xs cells.toList →
    ∃ cells', Instr.fill (fun i => some (i * t.size, t.size)) cells (idx.zip vs) = some cells' ∧ RowsBy (fun x c => Rd P t w (Mu M (kill hp ls') ψ) x c) xs' cells'.toList ∧ cells'.size = cells.size ∧ xs'.length = xs.length
  | [], avs, vs, xs, xs', ls, cells, h, hs, hv, hr => by
    cases avs with
    | nil =>
      simp only [rowx, Option.some.injEq, Prod.mk.injEq] at h
      obtain ⟨rfl, rfl⟩ := h
      exact ⟨cells, by simp [Instr.fill], hr, rfl, rfl⟩
    | cons x r => simp [rowx] at h
  | i :: idx, avs, vs, xs, xs', ls, cells, h, hs, hv, hr => by
    cases avs with
    | nil => simp [rowx] at h
    | cons x r =>
      obtain ⟨v, vs', rfl, q1, q2⟩ := hv
      simp only [rowx] at h
      split at h
      · rename_i hlt
        split at h
        · rename_i d l1 hd
          obtain ⟨y, hy, e⟩ := Option.map_eq_some_iff.1 h
          simp only [Prod.mk.injEq] at e
          obtain ⟨rfl, rfl⟩ := e
          have hdv := rd_ok h0 hlh hd q1 (ls' := ls') (fun l hl => hs l (List.mem_append_left _ hl))
          have hsz : v.cells.size = t.size := by have := hdv.2.len; simpa using this
          have hcl := RowsBy.len (fun _ _ q => q.len) hr
          obtain ⟨c1, cc, c2, e0, r1, r2, r3⟩ := hr.at hlt
          have hc1 : c1.length = i * t.size := by rw [RowsBy.len (fun _ _ q => q.len) r1, List.length_take, Nat.min_eq_left (Nat.le_of_lt hlt)]
          have hcc := r2.len
          have hclen : cells.size = c1.length + cc.length + c2.length := by
            have : cells.toList.length = (c1 ++ cc ++ c2).length := by rw [e0]
            simp at this
            omega
          have hfold : ((v.cells.zipIdx.foldl (fun (cs : Array Value) (x : Value × Nat) => cs.setIfInBounds (i * t.size + x.2) x.1) cells)).toList = c1 ++ v.cells.toList ++ c2 := by
            have := foldl_set (i * t.size) v.cells.toList 0 cells (by simp; omega)
            rw [← Array.foldl_toList, Array.toList_zipIdx, this, e0]
            simp only [Nat.add_zero]
            rw [← hc1, List.append_assoc c1, List.take_left, show c1.length + v.cells.toList.length = c1.length + cc.length by simp; omega, ← List.length_append, ← List.append_assoc, List.drop_left]
          have hsize : (v.cells.zipIdx.foldl (fun (cs : Array Value) (x : Value × Nat) => cs.setIfInBounds (i * t.size + x.2) x.1) cells).size = cells.size := by
            have : (v.cells.zipIdx.foldl (fun (cs : Array Value) (x : Value × Nat) => cs.setIfInBounds (i * t.size + x.2) x.1) cells).toList.length = _ := congrArg List.length hfold
            simp only [Array.length_toList, List.length_append] at this
            omega
          obtain ⟨cells', k1, k2, k3, k4⟩ := rowfill_ok h0 hlh idx r vs' (xs.set i d) y.1 y.2 (v.cells.zipIdx.foldl (fun (cs : Array Value) (x : Value × Nat) => cs.setIfInBounds (i * t.size + x.2) x.1) cells) hy (fun l hl => hs l (List.mem_append_right _ hl)) q2
            (by rw [hfold]; exact RowsBy.set hlt r1 hdv.2 r3)
          refine ⟨cells', ?_, k2, by rw [k3, hsize], by rw [k4]; simp⟩
          simp only [List.zip_cons_cons, Instr.fill]
          rw [if_neg (by simp; omega)]
          exact k1
        · cases h
      · cases h
theorem bslice_ok {T e : TypeId} {t : Ty} {n : Nat} {parts : Array (Nat × Operand)} {avs : List AV} {xs : List t.den} {ls : List Nat} (ho : o.op = .buildSlice T n parts) (hT : elemOk P T e t = true) (hz : zeroIs P e t = true) (h0 : t.size ≠ 0) (hn : n * t.size ≤ 16777216)
    (hlh : ∀ l ob, lh l = some ob → hp l = some ob) (hv : AVRs P hp ψ w (Mu M hp ψ) avs ((parts.toList.map (·.2)).map a.eval)) (h : rowx lh t (List.replicate n t.dflt) (parts.toList.map (·.1)) avs = some (xs, ls)) (c : Ctx P B M hp ψ w fr) :
    Does P o a w (OpPost P B M hp ψ w fr ⟨.own fr, ls, some (fr, .row e t xs)⟩) := by
  obtain ⟨hu, i, hi, his⟩ := elemOk_spec hT
  obtain ⟨i', z, hi', hz', hrd⟩ := zeroIs_spec hz
  rw [hi] at hi'; injection hi' with hi'; subst hi'
  have hzs : z.cells.size = t.size := by have := (hrd w (fun _ => False)).len; simpa using this
  have hmade : (madeCells z.cells (n * t.size)).toList = (List.replicate n z.cells.toList).flatten := by rw [← hzs]; exact made_rows _ _
  obtain ⟨cells', k1, k2, k3, k4⟩ := rowfill_ok c.hok hlh (ls' := ls) _ avs _ (List.replicate n t.dflt) xs ls (madeCells z.cells (n * t.size)) h (fun _ h => h) hv (by rw [hmade]; exact rows_rep (hrd w _) _)
  rw [zip_parts] at k1
  have hxl : xs.length = n := by rw [k4]; simp
  refine does_run (v := .slice (some ⟨w.heap.size, 0, none⟩) n n) (w' := w.alloc (.cells cells' e)) ?_ ?_
  · unfold execOp; simp only [ho]
    have hm : ((Array.range (n * i.size)).map fun x => z.cells[x % z.cells.size]!) = madeCells z.cells (n * t.size) := by rw [his]; rfl
    have hf : Instr.fill (fun x => some (x * i.size, i.size)) (madeCells z.cells (n * t.size)) (List.map (fun x => (x.1, a.eval x.2)) parts.toList) = some cells' := by rw [his, ← k1]
    by_cases hz0 : n * i.size = 0
    · have hn0 : n = 0 := by
        rcases Nat.mul_eq_zero.1 hz0 with q | q
        · exact q
        · omega
      subst hn0
      simp [Instr.buildSlice, run_underlying hu, sizeOf, typeInfo, hi, newRow]
      have : madeCells z.cells (0 * t.size) = #[] := by simp [madeCells]
      rw [this] at hf
      have h2 : Array.map (fun x => (default : Value)) (Array.range 0) = #[] := by apply Array.ext'; simp [Array.toList_range]
      rw [h2, hf]
      rfl
    · have hgt : ¬ (16777216 < n * i.size) := by rw [his]; omega
      simp [Instr.buildSlice, run_underlying hu, sizeOf, typeInfo, zeroValue, hi, hz', hz0, hgt, newRow]
      rw [hm, hf]
      rfl
  · refine new_row (cells := cells'.toList) c (below_alloc _) ⟨by simp [k3, size_madeCells, hxl], .inr ⟨w.heap.size, n, cells', by rw [hxl], Nat.le_refl _, heap_alloc_new w _, by omega, ?_, by rw [k3, size_madeCells], ?_⟩⟩ ?_
    · have : n ≤ n * t.size := Nat.le_mul_of_pos_right _ (by omega)
      simp [maxLen]; omega
    · rw [List.take_of_length_le]
      simp [k3, size_madeCells, hxl]
    · intro hl
      refine k2.mono fun x _ cc q => q.later ⟨hl.size, fun b hb hm => ?_, fun b hb q => ?_, hl.bound⟩
      · exact Below.heap_alloc _ _ _ hb
      · rcases q with q | ⟨l, ob, q1, q2⟩
        · exact .inl q
        · by_cases el : l = fr
          · subst el; rw [upd'_same] at q2; simp only [blk, Option.some.injEq] at q2; omega
          · rw [putHp_other _ _ el] at q1; rw [upd'_other _ _ el] at q2
            exact .inr ⟨l, ob, q1, q2⟩
end
end T
end Go.Proofs.Ytbbpiihbhdagnaa
