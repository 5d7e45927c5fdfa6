/- Typed abstract walk, part 7: each operation does what the walk says (2): variables, fields, elements. -/
import Derived.Test.YtbbpiihbhdagnaaT6
namespace Go.Proofs.Ytbbpiihbhdagnaa
set_option linter.unusedVariables false
set_option linter.unusedSimpArgs false
open Go.RowKit
namespace T
section
variable {P : Program} {B : Nat} {M : Nat → Prop} {hp lh : Hp} {ψ : Nat → Value} {w w' : World} {fr : Nat} {C : List Ent} {o : Oper} {a : Act}
theorem tyOk_st {T : TypeId} {t : Ty} (h : tyOk P T t = true) (hs : t.isSt = true) : ∃ fs, P.underlying T = some (.struct fs) ∧ (P.info? T).map (·.size) = some t.size := by
  unfold tyOk at h
  simp only [Bool.and_eq_true, beq_iff_eq] at h
  obtain ⟨h1, h2⟩ := h
  cases hu : P.underlying T with
  | none => rw [hu] at h1; cases h1
  | some d =>
    rw [hu] at h1
    cases d <;> simp [hs] at h1
    exact ⟨_, rfl, h2⟩
theorem tyOk_one {T : TypeId} {t : Ty} (h : tyOk P T t = true) (hs : t.isSt = false) : t.size = 1 ∧ (isAgg T).run P w = .ok false w ∧ (P.info? T).map (·.size) = some 1 := by
  unfold tyOk at h
  simp only [Bool.and_eq_true, beq_iff_eq] at h
  obtain ⟨h1, h2⟩ := h
  cases hu : P.underlying T with
  | none => rw [hu] at h1; cases h1
  | some d =>
    rw [hu] at h1
    cases d <;> simp [hs] at h1 <;> refine ⟨h1, ?_, by rw [h2, h1]⟩ <;> simp [isAgg, run_underlying hu]
theorem tyOk_size {T : TypeId} {t : Ty} (h : tyOk P T t = true) : (P.info? T).map (·.size) = some t.size := by
  unfold tyOk at h
  simp only [Bool.and_eq_true, beq_iff_eq] at h
  exact h.2
theorem shape_st {t : Ty} {cs : Array Value} : (Ty.st t).shape (.agg cs) := by unfold Ty.shape Ty.isSt; simp
theorem shape_agg {t : Ty} (h : t.isSt = true) {cs : Array Value} : t.shape (.agg cs) := by unfold Ty.shape; simp [h]
theorem shape_one {t : Ty} (h : t.isSt = false) {v : Value} (hv : v.oneCell' = true) : t.shape v := by
  unfold Ty.shape; rw [h]; constructor
  · rintro ⟨cs, rfl⟩; simp [Value.oneCell'] at hv
  · intro q; cases q
theorem cells_one {v : Value} (hv : v.oneCell' = true) : v.cells = #[v] := by cases v <;> simp_all [Value.cells, Value.oneCell']
/-- Memory that reads as data is loaded. -/
theorem load_rd {T : TypeId} {t : Ty} {M' : Nat → Prop} (h : tyOk P T t = true) {b off : Nat} {cc : List Value} (hc : CellsAt w b off cc) {d : t.den} (q : Rd P t w M' d cc) :
    ∃ u, (Instr.loadAt T (.pointer (some ⟨b, off, none⟩))).run P w = .ok u w ∧ RdV P t w M' d u := by
  cases hs : t.isSt with
  | true =>
    obtain ⟨fs, hu, hi⟩ := tyOk_st h hs
    refine ⟨_, run_loadAt_mid w b off T cc _ hc hu rfl (by rw [hi, q.len]), shape_agg hs, by simpa [Value.cells] using q⟩
  | false =>
    obtain ⟨h1, h2, h3⟩ := tyOk_one (w := w) h hs
    obtain ⟨u, rfl, hr⟩ := q.cell h1 hs
    refine ⟨u, ?_, hr⟩
    have hcell : w.cell? ⟨b, off, none⟩ = some u := by simpa using hc 0 u rfl
    simp [Instr.loadAt, Instr.sureAddr, loadVar, h2, hcell]
theorem own_cells {e : TypeId} {s g n cap m : Nat} {cells : List Value} (h : w.ownsRow B e s (.slice (some ⟨g, 0, none⟩) n cap) m cells) : CellsAt w g 0 cells := by
  intro j v hj
  rw [Nat.zero_add]
  have := h.cells (g := g) rfl j v hj
  rwa [Addr.add_mid, Nat.zero_add] at this
theorem avr_ptr {hp : Hp} {M' : Nat → Prop} {t : Ty} {d : t.den} {v : Value} (h : AVR P hp ψ w M' (.val (.ptr t) d) v) :
    ∃ b off cc, v = .pointer (some ⟨b, off, none⟩) ∧ b < w.heap.size ∧ ¬ M' b ∧ CellsAt w b off cc ∧ Rd P t w M' d cc := by
  obtain ⟨b, off, cc, e, q⟩ := (RdV.one (t := .ptr t) h rfl rfl).1
  exact ⟨b, off, cc, by simpa using e, q⟩
theorem partOf_ok {T : TypeId} {t : Ty} {M' : Nat → Prop} (h : tyOk P T t = true) {cs : List AV} {off : Nat} {av : AV} (hpt : partOf t cs off = some av) {cells : List Value} (hq : AVRs P hp ψ w M' cs cells) (h1 : ∀ u ∈ cells, u.oneCell' = true) :
    ∃ cc, (∃ pre post, cells = pre ++ cc ++ post ∧ pre.length = off) ∧ cc.length = t.size ∧ (t.isSt = true → AVR P hp ψ w M' av (.agg cc.toArray)) ∧ (t.isSt = false → ∃ u, cc = [u] ∧ AVR P hp ψ w M' av u) := by
  unfold partOf at hpt
  have hl := hq.len
  cases hs : t.isSt with
  | true =>
    rw [hs] at hpt
    simp only [if_true] at hpt
    split at hpt
    · rename_i hle
      injection hpt with hpt; subst hpt
      refine ⟨(cells.drop off).take t.size, ⟨cells.take off, (cells.drop off).drop t.size, by rw [List.append_assoc, List.take_append_drop, List.take_append_drop], by simp; omega⟩, by simp; omega, fun _ => ⟨_, rfl, ?_, ?_⟩, fun h => by cases h⟩
      · simpa using (hq.drop off).take t.size
      · intro u hu
        simp only [List.mem_toArray, List.toList_toArray] at hu
        exact h1 u (List.mem_of_mem_drop (List.mem_of_mem_take hu))
    · cases hpt
  | false =>
    rw [hs] at hpt
    simp only [Bool.false_eq_true, if_false] at hpt
    obtain ⟨u, hu, hr⟩ := hq.at hpt
    have hlt := (List.getElem?_eq_some_iff.1 hu).1
    have hget := (List.getElem?_eq_some_iff.1 hu).2
    refine ⟨[u], ⟨cells.take off, cells.drop (off + 1), ?_, by simp; omega⟩, by rw [(tyOk_one (w := w) h hs).1]; rfl, (fun h => by cases h), fun _ => ⟨u, rfl, hr⟩⟩
    rw [← hget]; simp
theorem box_cells {cells : Array Value} {b : Nat} {T : TypeId} {fz : Nat × Nat} (hg : w.heap[b]? = some (.cells cells T fz)) {pre cc post : List Value} (e : cells.toList = pre ++ cc ++ post) : CellsAt w b pre.length cc := by
  intro j v hj
  unfold World.cell?
  simp only [hg]
  have hlt := (List.getElem?_eq_some_iff.1 hj).1
  have : cells.toList[pre.length + j]? = some v := by
    rw [e, List.append_assoc, List.getElem?_append_right (by omega), List.getElem?_append_left (by omega)]
    simpa using hj
  simpa using this
theorem load_ok {T : TypeId} {t : Ty} {X : Operand} {x : AV} {p : Prop} {av : AV} (ho : o.op = .load T X) (hT : tyOk P T t = true) (hlh : ∀ l ob, lh l = some ob → hp l = some ob)
    (hX : AVR P hp ψ w (Mu M hp ψ) x (a.eval X)) (h : loadx lh t x = some (p, av)) (hp' : p) (c : Ctx P B M hp ψ w fr) : Does P o a w (OpPost P B M hp ψ w fr (pur av)) := by
  have fin : ∀ b off cc, a.eval X = .pointer (some ⟨b, off, none⟩) → CellsAt w b off cc → ∀ d : t.den, Rd P t w (Mu M hp ψ) d cc → av = .val t d → Does P o a w (OpPost P B M hp ψ w fr (pur av)) := by
    intro b off cc e hc d q hav
    subst hav
    obtain ⟨u, hr, hu⟩ := load_rd hT hc q
    refine does_run ?_ (c.pure hu)
    unfold execOp; simp only [ho, e]; simp [hr]
  unfold loadx at h
  split at h
  · rename_i l off
    split at h
    · rename_i T' cs hl
      obtain ⟨c', hc', e⟩ := Option.map_eq_some_iff.1 h
      simp only [Prod.mk.injEq] at e
      obtain ⟨rfl, rfl⟩ := e
      have hl' := hlh _ _ hl
      obtain ⟨b, cells, e1, hB, hg, q, q1⟩ := c.hok.ob l _ hl'
      obtain ⟨b', e2, e3⟩ := hX _ hl'
      rw [e1] at e2
      simp only [Value.pointer.injEq, Option.some.injEq, Addr.mk.injEq, and_true] at e2
      subst e2
      obtain ⟨cc, ⟨pre, post, k1, k2⟩, k3, k4, k5⟩ := partOf_ok hT hc' q q1
      subst k2
      have hcell := box_cells hg k1
      cases hs : t.isSt with
      | true =>
        obtain ⟨fs, hu, hi⟩ := tyOk_st hT hs
        refine does_run ?_ (c.pure (k4 hs))
        unfold execOp; simp only [ho, e3]
        simp [run_loadAt_mid w b pre.length T cc _ hcell hu rfl (by rw [hi, k3])]
      | false =>
        obtain ⟨u, rfl, hr⟩ := k5 hs
        obtain ⟨h1, h2, h3⟩ := tyOk_one (w := w) hT hs
        refine does_run ?_ (c.pure hr)
        have hcell' : w.cell? ⟨b, pre.length, none⟩ = some u := by simpa using hcell 0 u rfl
        unfold execOp; simp only [ho, e3]
        simp [Instr.loadAt, Instr.sureAddr, loadVar, h2, hcell']
    · cases h
  · rename_i t' d
    obtain ⟨e', he', e⟩ := Option.map_eq_some_iff.1 h
    simp only [Prod.mk.injEq] at e
    obtain ⟨rfl, rfl⟩ := e
    obtain ⟨b, off, cc, e1, _, _, hc, q⟩ := avr_ptr hX
    exact fin b off cc e1 hc e' (cast?_rd he' q) rfl
  · rename_i l i off
    split at h
    · rename_i e t' xs hl
      obtain ⟨e', he', e⟩ := Option.map_eq_some_iff.1 h
      simp only [Prod.mk.injEq] at e
      obtain ⟨rfl, rfl⟩ := e
      have hl' := hlh _ _ hl
      obtain ⟨cells, hown, hrow⟩ := c.hok.ob l _ hl'
      obtain ⟨g, n, cp, e1, e2⟩ := hX _ _ _ hl'
      rw [e1] at hown
      obtain ⟨c1, cc, c2, rfl, r1, r2, r3⟩ := hrow.at hp'
      rw [List.getD_eq_getElem?_getD, List.getElem?_eq_getElem hp', Option.getD_some] at he'
      obtain ⟨k1, k, k2, rfl, hk, hr⟩ := proj_rd r2 he'
      have hlen : c1.length = i * t'.size := by rw [RowsBy.len (fun _ _ q => q.len) r1, List.length_take, Nat.min_eq_left (Nat.le_of_lt hp')]
      refine fin g _ k e2 ?_ e' hr rfl
      have := own_cells hown
      rw [← hlen, ← hk]
      have h3 := this.left.right.left.right
      rwa [Nat.zero_add] at h3
    · cases h
  · cases h

theorem cellsOf_locs {x : AV} {ns : List AV} (h : cellsOf lh x = some ns) {z : Nat} (hz : z ∉ x.locs) : z ∉ AV.locsL ns := by
  have hsc : ∀ (t : Ty) (d : t.den), AV.locsL (scatter t d) = [] := by
    intro t
    induction t with
    | st t ih => intro d; exact ih d
    | cons a b iha ihb =>
      intro d
      have happ : ∀ x y : List AV, AV.locsL (x ++ y) = AV.locsL x ++ AV.locsL y := by
        intro x y; induction x with
        | nil => rfl
        | cons z r ih => simp [AV.locsL, ih]
      simp [scatter, happ, iha, ihb]
    | _ => intros; rfl
  unfold cellsOf at h
  split at h
  · injection h with h; subst h; simpa [AV.locs] using hz
  · injection h with h; subst h; rw [hsc]; simp
  · obtain ⟨_, _, rfl⟩ := Option.map_eq_some_iff.1 h; simpa [AV.locs, AV.locsL] using hz
  · obtain ⟨_, _, rfl⟩ := Option.map_eq_some_iff.1 h; simpa [AV.locs, AV.locsL] using hz
  · obtain ⟨_, _, rfl⟩ := Option.map_eq_some_iff.1 h; simpa [AV.locs, AV.locsL] using hz
  · injection h with h; subst h; simpa [AV.locs, AV.locsL] using hz
  · injection h with h; subst h; simp [AV.locs, AV.locsL]
  · cases h
theorem cellsOf_ok (h0 : HOK P B M hp ψ w) (hlh : ∀ l ob, lh l = some ob → hp l = some ob) {x : AV} {ns : List AV} (h : cellsOf lh x = some ns) {v : Value} (hX : AVR P hp ψ w (Mu M hp ψ) x v) :
    AVRs P hp ψ w (Mu M hp ψ) ns v.cells.toList ∧ ∀ u ∈ v.cells.toList, u.oneCell' = true := by
  have fin : ∀ av, AVR P hp ψ w (Mu M hp ψ) av v → v.oneCell' = true → AVRs P hp ψ w (Mu M hp ψ) [av] v.cells.toList ∧ ∀ u ∈ v.cells.toList, u.oneCell' = true := by
    intro av q h1
    rw [cells_one h1]
    exact ⟨⟨v, [], rfl, q, rfl⟩, by intro u hu; simp at hu; subst hu; exact h1⟩
  unfold cellsOf at h
  split at h
  · injection h with h; subst h
    obtain ⟨us, rfl, q, q1⟩ := hX
    exact ⟨q, q1⟩
  · injection h with h; subst h
    exact ⟨scatter_r hX.2, hX.2.one⟩
  · rename_i l
    obtain ⟨ob, hl, rfl⟩ := Option.map_eq_some_iff.1 h
    refine fin _ hX ?_
    have hl' := hlh _ _ hl
    rw [hX _ hl']
    cases ob with
    | box T cs => obtain ⟨b, cells, e, _⟩ := h0.ob l _ hl'; rw [e]; rfl
    | row e t xs =>
      obtain ⟨cells, h1, _⟩ := h0.ob l _ hl'
      rcases h1.2 with ⟨e, _⟩ | ⟨g, cap, cur, e, _⟩ <;> (rw [e]; rfl)
    | mp k t xs => obtain ⟨b, es, clock, e, _⟩ := h0.ob l _ hl'; rw [e]; rfl
    | lp bs r => obtain ⟨b, e, _⟩ := h0.ob l _ hl'; rw [e]; rfl
    | it k t left cur => obtain ⟨b, e, _⟩ := h0.ob l _ hl'; rw [e]; rfl
  · rename_i l o'
    obtain ⟨ob, hl, rfl⟩ := Option.map_eq_some_iff.1 h
    refine fin _ hX ?_
    obtain ⟨b, _, e⟩ := hX _ (hlh _ _ hl)
    rw [e]; rfl
  · rename_i l o'
    obtain ⟨ob, hl, rfl⟩ := Option.map_eq_some_iff.1 h
    refine fin _ hX ?_
    obtain ⟨b, _, _, e, _⟩ := hX _ (hlh _ _ hl)
    rw [e]; rfl
  · injection h with h; subst h
    refine fin _ hX ?_
    obtain ⟨us, e, _⟩ := hX
    rw [e]; rfl
  · injection h with h; subst h
    refine fin _ hX ?_
    obtain rfl : v = _ := hX
    rfl
  · cases h

theorem run_store_at {g off : Nat} {cur : Array Value} {T T0 : TypeId} {v : Value} (hg : w.heap[g]? = some (.cells cur T0 (0, 0))) (hsz : (P.info? T).map (·.size) = some v.cells.size) (hfit : off + v.cells.size ≤ cur.size)
    (h1 : ∀ u ∈ v.cells.toList, u.oneCell' = true) :
    (Instr.storeAt T (.pointer (some ⟨g, off, none⟩)) v).run P w = .ok () (w.setRow g (cur.toList.take off ++ v.cells.toList ++ cur.toList.drop (off + v.cells.size)).toArray) := by
  have := run_storeCells_at (P := P) g off T0 v.cells.toList 0 cur w hg (by simpa using hfit) h1
  simp only [Nat.add_zero, Array.length_toList] at this
  cases hq : P.info? T with
  | none => simp [hq] at hsz
  | some i =>
    have hs : v.cells.size = i.size := by simp [hq] at hsz; omega
    simp only [Instr.storeAt, Instr.sureAddr, storeVar, sizeOf, typeInfo, Sem.run_bind, Sem.run_pure, Result.andThen_ok, run_program, hq]
    simp [hs]
    rw [← hs]
    simpa using this
theorem put_kind {ks : List Nat} {l : Nat} {ob ob0 : OB} (hl : hp l = some ob0) (hk : ob0.like ob) : ∀ x ob', x ≠ fr → putHp (T.kill hp ks) l ob x = some ob' → ∃ ob, hp x = some ob ∧ ob.like ob' := by
  intro x ob' _ h
  by_cases e : x = l
  · subst e; rw [putHp_same] at h; injection h with h; subst h; exact ⟨ob0, hl, hk⟩
  · rw [putHp_other _ _ e] at h; exact ⟨ob', (kill_some h).2, like_refl _⟩
theorem setRow_os' {g : Nat} {cs : Array Value} : (w.setRow g cs).os = w.os ∧ (w.setRow g cs).tape = w.tape ∧ (w.setRow g cs).output = w.output ∧ (w.setRow g cs).heap.size = w.heap.size := by simp
theorem splice_r {M' : Nat → Prop} {cs ns : List AV} {cells us : List Value} {off : Nat} (h : AVRs P hp ψ w M' cs cells) (h' : AVRs P hp ψ w M' ns us) : AVRs P hp ψ w M' (splice cs off ns) (cells.take off ++ us ++ cells.drop (off + us.length)) := by
  unfold splice
  rw [h'.len]
  exact ((h.take off).append h').append (h.drop _)
theorem RowsBy.set {α : Type} {R : α → List Value → Prop} {xs : List α} {i : Nat} {y : α} {c1 c c2 : List Value} (hi : i < xs.length) (h1 : RowsBy R (xs.take i) c1) (h2 : R y c) (h3 : RowsBy R (xs.drop (i + 1)) c2) : RowsBy R (xs.set i y) (c1 ++ c ++ c2) := by
  rw [List.set_eq_take_append_cons_drop, if_pos hi, List.append_assoc]
  exact h1.append ⟨c, c2, rfl, h2, h3⟩
theorem store_ok {T : TypeId} {t : Ty} {X Y : Operand} {x y : AV} {p : Prop} {eff : Eff} (ho : o.op = .store T X Y) (hT : tyOk P T t = true) (hlh : ∀ l ob, lh l = some ob → hp l = some ob)
    (hX : AVR P hp ψ w (Mu M hp ψ) x (a.eval X)) (hY : AVR P hp ψ w (Mu M hp ψ) y (a.eval Y)) (hfy : fr ∉ y.locs) (h : storex lh t y x = some (p, eff)) (hp' : p) (c : Ctx P B M hp ψ w fr) : Does P o a w (OpPost P B M hp ψ w fr eff) := by
  unfold storex at h
  split at h
  · rename_i l off
    split at h
    · rename_i T' cs hl
      split at h
      · rename_i ns hns
        split at h
        · rename_i hle
          simp only [Option.some.injEq, Prod.mk.injEq] at h
          obtain ⟨rfl, rfl⟩ := h
          have hl' := hlh _ _ hl
          obtain ⟨b, cells, e1, hB, hg, q, q1⟩ := c.hok.ob l _ hl'
          obtain ⟨b', e2, e3⟩ := hX _ hl'
          rw [e1] at e2
          simp only [Value.pointer.injEq, Option.some.injEq, Addr.mk.injEq, and_true] at e2
          subst e2
          obtain ⟨n1, n2⟩ := cellsOf_ok c.hok hlh hns hY
          have hlen : (a.eval Y).cells.size = ns.length := by have := n1.len; simpa using this
          have hcl : cells.size = cs.length := by have := q.len; simpa using this
          refine does_skip (w' := w.setRow b (cells.toList.take off ++ (a.eval Y).cells.toList ++ cells.toList.drop (off + (a.eval Y).cells.size)).toArray) ?_ ?_
          · unfold execOp; simp only [ho, e3]
            simp [run_store_at hg (by rw [tyOk_size hT, hlen, hle.2]) (by rw [hlen, hcl]; exact hle.1) n2]
          · refine c.write hl' trivial (by simp) rfl rfl rfl (by simp) (fun k hk hne => setRow_other _ _ _ _ (fun e => hne (by rw [e1, e]; rfl))) (fun hlt => ?_) (fun _ => trivial)
            refine ⟨b, _, e1, hB, setRow_heap w b cells _ _ _ hg, ?_, ?_⟩
            · have hk := put_kind (fr := fr) (ks := []) hl' (ob := .box T' (splice cs off ns)) trivial
              have hlen' : (a.eval Y).cells.size = (a.eval Y).cells.toList.length := by simp
              rw [List.toList_toArray, hlen']
              exact splice_r (AVRs.later hlt (fun _ _ => rfl) hk (c.obs l _ hl') q) (AVRs.later hlt (fun _ _ => rfl) hk (cellsOf_locs hns hfy) n1)
            · intro u hu
              simp only [List.toList_toArray, List.mem_append] at hu
              rcases hu with (hu | hu) | hu
              · exact q1 u (List.mem_of_mem_take hu)
              · exact n2 u hu
              · exact q1 u (List.mem_of_mem_drop hu)
        · cases h
      · cases h
    · cases h
  · rename_i l i off
    split at h
    · rename_i e t' xs hl
      split at h
      · rename_i d ls hrd
        split at h
        · cases h
        · rename_i hnl
          obtain ⟨y', hy', e'⟩ := Option.map_eq_some_iff.1 h
          simp only [Prod.mk.injEq] at e'
          obtain ⟨rfl, rfl⟩ := e'
          have hl' := hlh _ _ hl
          obtain ⟨cells, hown, hrow⟩ := c.hok.ob l _ hl'
          obtain ⟨g, n, cp, e1, e2⟩ := hX _ _ _ hl'
          have hown' := hown
          rw [e1] at hown'
          have hY' := rd_ok c.hok hlh hrd hY (ls' := ls) (fun _ h => h)
          rw [List.getD_eq_getElem?_getD, List.getElem?_eq_getElem hp', Option.getD_some] at hy'
          obtain ⟨c1, cc, c2, hcells, r1, r2, r3⟩ := hrow.at hp'
          have r2' := r2.kill c.hok ls
          obtain ⟨k1, k, k2, rfl, hk, hk', hr⟩ := upd_rd hY'.2 r2' hy'
          rcases hown'.2 with ⟨q, _⟩ | ⟨g', cap, cur, q, hB, hg, hn, hc, hcs, ht⟩
          · cases q
          · simp only [Value.slice.injEq, Option.some.injEq, Addr.mk.injEq, and_true] at q
            obtain ⟨rfl, rfl, rfl⟩ := q
            have hlen : c1.length = i * t'.size := by rw [RowsBy.len (fun _ _ q => q.len) r1, List.length_take, Nat.min_eq_left (Nat.le_of_lt hp')]
            have hlk : k.length = (a.eval Y).cells.size := by rw [hk']; simp
            have hcur : cur.toList = (c1 ++ k1) ++ k ++ (k2 ++ c2 ++ cur.toList.drop (xs.length * t'.size)) := by
              calc cur.toList = cur.toList.take (xs.length * t'.size) ++ cur.toList.drop (xs.length * t'.size) := (List.take_append_drop _ _).symm
                _ = _ := by rw [ht, hcells]; simp
            have hpre : i * t'.size + off = (c1 ++ k1).length := by rw [List.length_append]; omega
            have hcsz : cur.size = ((c1 ++ k1) ++ k ++ (k2 ++ c2 ++ cur.toList.drop (xs.length * t'.size))).length := by rw [← hcur]; simp
            have hone := hY'.2.one
            have hnew : (cur.toList.take (i * t'.size + off) ++ (a.eval Y).cells.toList ++ cur.toList.drop (i * t'.size + off + (a.eval Y).cells.size)) = (c1 ++ k1) ++ (a.eval Y).cells.toList ++ (k2 ++ c2 ++ cur.toList.drop (xs.length * t'.size)) := by
              conv => lhs; rw [hcur]
              rw [hpre, ← hlk]
              have e1 : (c1 ++ k1 ++ k ++ (k2 ++ c2 ++ cur.toList.drop (xs.length * t'.size))).take (c1 ++ k1).length = c1 ++ k1 := by
                rw [List.append_assoc, List.take_left]
              have e2 : (c1 ++ k1 ++ k ++ (k2 ++ c2 ++ cur.toList.drop (xs.length * t'.size))).drop ((c1 ++ k1).length + k.length) = k2 ++ c2 ++ cur.toList.drop (xs.length * t'.size) := by
                rw [← List.length_append, List.drop_left]
              rw [e1, e2]
            refine does_skip (w' := w.setRow g (cur.toList.take (i * t'.size + off) ++ (a.eval Y).cells.toList ++ cur.toList.drop (i * t'.size + off + (a.eval Y).cells.size)).toArray) ?_ ?_
            · have hst := run_store_at (P := P) (T := T) (off := i * t'.size + off) (v := a.eval Y) hg (by rw [tyOk_size hT, ← hY'.2.len]; simp) (by rw [hcsz, hpre, ← hlk]; simp only [List.length_append]; omega) hone
              unfold execOp; simp only [ho, e2]
              rw [Sem.run_bind, hst]; rfl
            · refine c.write (ks := ls) hl' rfl hnl rfl rfl rfl (by simp) (fun b hb hne => setRow_other _ _ _ _ (fun e => hne (by rw [e1, e]; rfl))) (fun hlt => ?_) (fun _ => trivial)
              have hl2 : Later w (Mu M (kill hp ls) ψ) (w.setRow g (cur.toList.take (i * t'.size + off) ++ (a.eval Y).cells.toList ++ cur.toList.drop (i * t'.size + off + (a.eval Y).cells.size)).toArray) (Mu M (putHp (kill hp ls) l (.row e t' (xs.set i y'))) ψ) := by
                refine ⟨by simp, fun b hb hm => setRow_other _ _ _ _ fun e => hm ?_, fun b hb q => ?_, hlt.bound⟩
                · subst e
                  exact .inr ⟨l, _, by rw [kill_not hnl]; exact hl', by rw [e1]; rfl⟩
                · rcases q with q | ⟨z, ob, q1, q2⟩
                  · exact .inl q
                  · by_cases ez : z = l
                    · subst ez; exact .inr ⟨z, _, by rw [kill_not hnl]; exact hl', q2⟩
                    · rw [putHp_other _ _ ez] at q1; exact .inr ⟨z, ob, q1, q2⟩
              refine ⟨c1 ++ (k1 ++ (a.eval Y).cells.toList ++ k2) ++ c2, ⟨?_, .inr ⟨g, cp, _, ?_, hB, setRow_heap w g cur _ _ _ hg, ?_, hc, ?_, ?_⟩⟩, RowsBy.set hp' (r1.mono fun _ _ _ q => q.later hlt) (hr.later hl2) (r3.mono fun _ _ _ q => q.later hlt)⟩
              · have := hown.1
                rw [hcells] at this
                simp only [List.length_append, List.length_set, Array.length_toList] at this ⊢
                omega
              · rw [e1]; simp
              · simpa using hn
              · rw [hnew]
                simp only [List.size_toArray]
                rw [← hcs, hcsz]
                simp only [List.length_append, Array.length_toList]
                omega
              · rw [hnew, List.toList_toArray]
                have hl3 : (c1 ++ (k1 ++ (a.eval Y).cells.toList ++ k2) ++ c2).length = (xs.set i y').length * t'.size := by
                  have := hown.1
                  rw [hcells] at this
                  simp only [List.length_append, List.length_set, Array.length_toList] at this ⊢
                  omega
                rw [← hl3, show c1 ++ k1 ++ (a.eval Y).cells.toList ++ (k2 ++ c2 ++ cur.toList.drop (xs.length * t'.size)) = (c1 ++ (k1 ++ (a.eval Y).cells.toList ++ k2) ++ c2) ++ cur.toList.drop (xs.length * t'.size) by simp, List.take_left]
      · cases h
    · cases h
  · cases h
end
end T
end Go.Proofs.Ytbbpiihbhdagnaa
