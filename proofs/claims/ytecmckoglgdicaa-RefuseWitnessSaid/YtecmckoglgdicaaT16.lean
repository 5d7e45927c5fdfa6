/- Typed abstract walk, part 16: code, loops, functions. -/
import Derived.Test.YtecmckoglgdicaaT15
import Derived.Deep.LoopGhost
namespace Go.Proofs.Ytecmckoglgdicaa
set_option linter.unusedVariables false
set_option linter.unusedSimpArgs false
open Go.RowKit
namespace T
inductive XE
  | normal | exit (id : Nat) | ret
inductive XC
  | skip | reg (draw : Bool) (xs : List XO) | seq (a b : XC) | cond (c : XA) (a b : XC) | block (id : Nat) (b : XC) | loop (b : XC) | exit (id : Nat) | ret | clean (c : XC)
abbrev XQ := XE → AS → Prop
def XQ.seq (f : AS → Prop) (Q : XQ) : XQ
  | .normal, s => f s
  | .exit i, s => Q (.exit i) s
  | .ret, s => Q .ret s
def XQ.blk (id : Nat) (Q : XQ) : XQ
  | .exit i, s => if i = id then Q .normal s else Q (.exit i) s
  | .normal, s => Q .normal s
  | .ret, s => Q .ret s
def condOf : AV → Option Bool
  | .val .bool b => some b
  | _ => none
section
variable (P : Program) (C : List Ent) (n : Nat)
/-- What is not kept is forgotten. -/
def cleanS (st : AS) : AS := ⟨st.kv.map fun k => (k, tmG st.tm k), st.hp, st.nx, st.kv⟩
def codeChk (code : Code) : XC → Bool
  | .clean x => codeChk code x
  | .skip => match code with
    | .skip => true
    | _ => false
  | .reg d' xs => match code with
    | .region _ ops d => d == d' && regChk P n ops d xs
    | _ => false
  | .seq x y => match code with
    | .seq a b => codeChk a x && codeChk b y
    | _ => false
  | .cond c' x y => match code with
    | .cond c a b => opOk c c' && c'.slot.all (· < n) && codeChk a x && codeChk b y
    | _ => false
  | .block j y => match code with
    | .block i b => i == j && codeChk b y
    | _ => false
  | .loop y => match code with
    | .loop b => codeChk b y
    | _ => false
  | .exit j => match code with
    | .exit i => i == j
    | _ => false
  | .ret => match code with
    | .ret => true
    | _ => false
/-- What holds of the walk's state holds of the program's. -/
def lift (B : Nat) (M : Nat → Prop) (w0 : Fix) (Q : XQ) : Exit → Act → World → Prop
  | .normal, a, w => ∃ s ψ, Sim P B M n s ψ w0 a w ∧ Q .normal s
  | .exit i, a, w => ∃ s ψ, Sim P B M n s ψ w0 a w ∧ Q (.exit i) s
  | .ret, a, w => ∃ s ψ, Sim P B M n s ψ w0 a w ∧ Q .ret s
  | _, _, _ => False
def XW (c : XC) (Q : XQ) (st : AS) : Prop := ∀ code, codeChk P n code c = true → (∀ e ∈ C, Con P e) → ∀ B M w0 ψ a w, Sim P B M n st ψ w0 a w → code.wp P (lift P n B M w0 Q) a w
/-- A state that says less. -/
def AS.le (st s : AS) : Prop := ∀ B M (w0 : Fix) ψ a w, Sim P B M n st ψ w0 a w → ∃ ψ', Sim P B M n s ψ' w0 a w
def xwp : XC → XQ → AS → Prop
  | .skip, Q, st => Q .normal st
  | .reg d xs, Q, st => match runR C d st xs with
    | some (p, st') => p ∧ Q .normal st'
    | none => False
  | .seq a b, Q, st => xwp a (XQ.seq (xwp b Q) Q) st
  | .cond c a b, Q, st => match condOf (c.av st.tm) with
    | some t => (t = true → xwp a Q st) ∧ (t = false → xwp b Q st)
    | none => False
  | .block id b, Q, st => xwp b (XQ.blk id Q) st
  | .loop b, Q, st => XW P C n (.loop b) Q st
  | .exit id, Q, st => Q (.exit id) st
  | .ret, Q, st => Q .ret st
  | .clean c, Q, st => xwp c Q (cleanS st)
end
section
variable {P : Program} {C : List Ent} {n : Nat}
theorem lift_mono {B : Nat} {M : Nat → Prop} {w0 : Fix} {Q Q' : XQ} (h : ∀ e s, Q e s → Q' e s) : ∀ e a w, lift P n B M w0 Q e a w → lift P n B M w0 Q' e a w := by
  intro e a w q
  cases e with
  | normal => obtain ⟨s, ψ, h1, h2⟩ := q; exact ⟨s, ψ, h1, h _ _ h2⟩
  | exit i => obtain ⟨s, ψ, h1, h2⟩ := q; exact ⟨s, ψ, h1, h _ _ h2⟩
  | ret => obtain ⟨s, ψ, h1, h2⟩ := q; exact ⟨s, ψ, h1, h _ _ h2⟩
  | _ => exact q.elim
theorem Sim.cond {B : Nat} {M : Nat → Prop} {st : AS} {ψ : Nat → Value} {w0 : Fix} {w : World} {a : Act} (s : Sim P B M n st ψ w0 a w) {c : Operand} {c' : XA} (h : opOk c c' = true) (hn : c'.slot.all (· < n) = true) {t : Bool} (ht : condOf (c'.av st.tm) = some t) : a.eval c = .bool t := by
  obtain ⟨e, hok⟩ := opOk_eq h
  have := SimF.arg s hok (fun k e => by rw [e] at hn; simpa [XA.slot] using hn) (av := c'.av st.tm) (by rw [av_avF]; cases c' <;> rfl)
  rw [e]
  unfold condOf at ht
  split at ht
  · rename_i b hb
    injection ht with ht; subst ht
    rw [hb] at this
    exact avr_bool this
  · cases ht
theorem tmG_map (f : Nat → AV) : ∀ (l : List Nat) (t : Nat), tmG (l.map fun k => (k, f k)) t = if t ∈ l then f t else .top
  | [], t => by simp [tmG]
  | k :: r, t => by
    simp only [List.map_cons, tmG, List.mem_cons]
    by_cases e : t = k
    · subst e; simp
    · rw [if_neg e, tmG_map f r t]; simp [e]
theorem clean_sim {B : Nat} {M : Nat → Prop} {st : AS} {ψ : Nat → Value} {w0 : Fix} {w : World} {a : Act} (s : Sim P B M n st ψ w0 a w) : Sim P B M n (cleanS st) ψ w0 a w := by
  have key : ∀ t, tmG (cleanS st).tm t = if t ∈ st.kv then tmG st.tm t else .top := fun t => tmG_map _ _ _
  refine ⟨s.hok, fun t => ?_, s.size, s.defers, fun t l hl => ?_, s.hlt, s.bel⟩
  · rw [key]; split
    · exact s.av t
    · exact trivial
  · rw [key] at hl; split at hl
    · exact s.lt t l hl
    · cases hl
theorem XW_of : ∀ {c : XC} {Q : XQ} {st : AS}, xwp P C n c Q st → XW P C n c Q st
  | .clean c, Q, st, h => fun code hc hC B M w0 ψ a w s => XW_of (c := c) h code hc hC B M w0 ψ a w (clean_sim s)
  | .skip, Q, st, h => fun code hc hC B M w0 ψ a w s => by
    cases code <;> simp [codeChk] at hc
    exact wp_skip ⟨st, ψ, s, h⟩
  | .ret, Q, st, h => fun code hc hC B M w0 ψ a w s => by
    cases code <;> simp [codeChk] at hc
    exact wp_ret ⟨st, ψ, s, h⟩
  | .exit i, Q, st, h => fun code hc hC B M w0 ψ a w s => by
    cases code <;> simp [codeChk] at hc
    subst hc
    exact wp_exit ⟨st, ψ, s, h⟩
  | .loop b, Q, st, h => h
  | .reg d xs, Q, st, h => fun code hc hC B M w0 ψ a w s => by
    cases code <;> simp only [codeChk, Bool.and_eq_true, beq_iff_eq, reduceCtorEq, Bool.false_eq_true] at hc
    rename_i id ops d'
    obtain ⟨rfl, hc⟩ := hc
    unfold regChk at hc
    simp only [Bool.and_eq_true] at hc
    obtain ⟨h1, h2⟩ := hc
    unfold xwp at h
    split at h
    · rename_i p st' hr
      unfold runR at hr
      cases d' with
      | false =>
        simp only [Bool.false_eq_true, if_false] at hr
        exact region_T hC h1 hr h.1 s fun ψ' a' w' hs => ⟨st', ψ', hs, h.2⟩
      | true =>
        simp only [if_true] at hr
        split at hr
        · cases hr
        · rename_i p2 st2 ts hD
          split at hr
          · rename_i hok
            simp only [Option.some.injEq, Prod.mk.injEq] at hr
            obtain ⟨rfl, rfl⟩ := hr
            simp only [Bool.not_true, Bool.false_or, Bool.and_eq_true] at h2
            exact region_D hC h1 h2.1.1 h2.1.2 h2.2 hD h.1 hok s fun ψ' a' w' hs => ⟨_, ψ', hs, h.2⟩
          · cases hr
    · exact h.elim
  | .seq x y, Q, st, h => fun code hc hC B M w0 ψ a w s => by
    cases code <;> simp [codeChk] at hc
    refine wp_seq (wp_mono (XW_of (c := x) h _ hc.1 hC B M w0 ψ a w s) fun e a' w' q => ?_)
    cases e with
    | normal => obtain ⟨s', ψ', h1, h2⟩ := q; exact XW_of (c := y) h2 _ hc.2 hC B M w0 ψ' a' w' h1
    | exit i => exact q
    | ret => exact q
    | _ => exact q.elim
  | .cond c x y, Q, st, h => fun code hc hC B M w0 ψ a w s => by
    cases code <;> simp only [codeChk, Bool.and_eq_true, reduceCtorEq, Bool.false_eq_true] at hc
    obtain ⟨⟨⟨h1, hn⟩, h2⟩, h3⟩ := hc
    unfold xwp at h
    split at h
    · rename_i t ht
      refine wp_cond (s.cond h1 hn ht) ?_
      cases t with
      | true => exact XW_of (c := x) (h.1 rfl) _ h2 hC B M w0 ψ a w s
      | false => exact XW_of (c := y) (h.2 rfl) _ h3 hC B M w0 ψ a w s
    · exact h.elim
  | .block id b, Q, st, h => fun code hc hC B M w0 ψ a w s => by
    cases code <;> simp [codeChk] at hc
    rename_i i0 b0
    obtain ⟨e0, hc⟩ := hc
    subst e0
    refine wp_block (wp_mono (XW_of (c := b) h _ hc hC B M w0 ψ a w s) fun e a' w' q => ?_)
    cases e with
    | normal => exact q
    | exit i =>
      obtain ⟨s', ψ', h1, h2⟩ := q
      simp only [XQ.blk] at h2
      simp only [Exit.inBlock]
      by_cases e : i = i0
      · rw [if_pos e] at h2 ⊢; exact ⟨s', ψ', h1, h2⟩
      · rw [if_neg e] at h2 ⊢; exact ⟨s', ψ', h1, h2⟩
    | ret => exact q
    | _ => exact q.elim
/-- A loop, by a family of states, with a number that every round lowers. -/
theorem XW_loop {b : XC} {Q : XQ} {st : AS} (X : Type) (I : X → AS) (inv : X → Prop) (μ : X → Nat) (x0 : X) (h0 : AS.le P n st (I x0)) (hi : inv x0)
    (hr : ∀ x, inv x → xwp P C n b (XQ.seq (fun s => ∃ x', μ x' < μ x ∧ inv x' ∧ AS.le P n s (I x')) Q) (I x)) : XW P C n (.loop b) Q st := by
  intro code hc hC B M w0 ψ a w s
  cases code <;> simp [codeChk] at hc
  obtain ⟨ψ', s'⟩ := h0 B M w0 ψ a w s
  refine wp_loop_ghost (fun k a w => ∃ x ψ, μ x = k ∧ inv x ∧ Sim P B M n (I x) ψ w0 a w) (μ x0) ⟨x0, ψ', rfl, hi, s'⟩ ?_
  rintro k a w ⟨x, ψ, rfl, hx, s⟩
  refine wp_mono (XW_of (hr x hx) _ hc hC B M w0 ψ a w s) fun e a' w' q => ?_
  cases e with
  | normal =>
    obtain ⟨s1, ψ1, h1, x', h2, h3, h4⟩ := q
    obtain ⟨ψ2, h5⟩ := h4 B M w0 ψ1 a' w' h1
    exact ⟨μ x', h2, x', ψ2, rfl, h3, h5⟩
  | exit i => exact q
  | ret => exact q
  | _ => exact q.elim
/-- A state that says less serves. -/
theorem XW_le {c : XC} {Q : XQ} {st s : AS} (h : AS.le P n st s) (hs : xwp P C n c Q s) : XW P C n c Q st := by
  intro code hc hC B M w0 ψ a w q
  obtain ⟨ψ', q'⟩ := h B M w0 ψ a w q
  exact XW_of hs code hc hC B M w0 ψ' a w q'
end

/-! A state that says less, shown piece by piece. -/
def assoc : List (Nat × Nat) → Nat → Option Nat
  | [], _ => none
  | (k, v) :: r, l => if l = k then some v else assoc r l
def disj : List Nat → List (Nat × Nat) → Bool
  | [], _ => true
  | l :: r, ρ => !(ρ.any fun p => p.2 == l) && disj r ρ
mutual
def avle (ρ : List (Nat × Nat)) (hp : Hp) : AV → AV → Prop
  | .top, _ => True
  | .val t d, src => match rd hp t src with
    | some (d', ls) => d' = d ∧ disj ls ρ = true
    | none => False
  | .own l, src => match assoc ρ l with
    | none => True
    | some l0 => match src with
      | .own l1 => l1 = l0
      | _ => False
  | .ptr l o, src => match assoc ρ l with
    | none => True
    | some l0 => match src with
      | .ptr l1 o1 => l1 = l0 ∧ o1 = o
      | _ => False
  | .cst v, src => match src with
    | .cst u => u = v
    | _ => False
  | .agg cs, src => match src with
    | .agg ds => avles ρ hp cs ds
    | _ => False
  | .tup cs, src => match src with
    | .tup ds => avles ρ hp cs ds
    | _ => False
  | .clo f cs, src => match src with
    | .clo g ds => g = f ∧ avles ρ hp cs ds
    | _ => False
  | .eptr _ _ _, _ => False
  | .whn _ _, _ => False
def avles (ρ : List (Nat × Nat)) (hp : Hp) : List AV → List AV → Prop
  | [], src => match src with
    | [] => True
    | _ :: _ => False
  | a :: r, src => match src with
    | b :: s => avle ρ hp a b ∧ avles ρ hp r s
    | [] => False
end
def oble (ρ : List (Nat × Nat)) (hp : Hp) : OB → OB → Prop
  | .box T cs, .box U ds => U = T ∧ avles ρ hp cs ds
  | .row e t xs, .row f u ys => f = e ∧ cast? (.sl t) (.sl u) ys = some xs
  | _, _ => False
def hple (ρ : List (Nat × Nat)) (hp : Hp) : List (Nat × OB) → Prop
  | [] => True
  | (l, ob) :: r => (match assoc ρ l with
    | none => False
    | some l0 => match hp l0 with
      | some ob0 => oble ρ hp ob ob0
      | none => False) ∧ hple ρ hp r
def uniq : List (Nat × Nat) → Bool
  | [] => true
  | p :: r => !(r.any fun q => q.2 == p.2) && uniq r
def locOk (st : AS) : Bool := st.tm.all (fun p => ltAll st.nx p.2.locs) && st.hp.all fun p => decide (p.1 < st.nx) && ltAll st.nx p.2.locs
def sub (ρ : List (Nat × Nat)) (hp : List (Nat × OB)) : Bool := ρ.all fun p => hp.any fun q => q.1 == p.1
/-- The slots of a state that says less, one by one. -/
def tmle (ρ : List (Nat × Nat)) (hp : Hp) (src : List (Nat × AV)) : List (Nat × AV) → Prop
  | [] => True
  | (k, v) :: r => avle ρ hp v (tmG src k) ∧ tmle ρ hp src r
def asle (ρ : List (Nat × Nat)) (st s : AS) : Prop := tmle ρ (look st.hp) st.tm s.tm ∧ hple ρ (look st.hp) s.hp ∧ uniq ρ = true ∧ sub ρ s.hp = true ∧ locOk s = true
section
variable {P : Program} {C : List Ent} {n : Nat} {B : Nat} {M : Nat → Prop} {ψ : Nat → Value} {w0 : Fix} {w : World} {a : Act}
theorem assoc_mem : ∀ {ρ : List (Nat × Nat)} {l v : Nat}, assoc ρ l = some v → (l, v) ∈ ρ
  | (k, u) :: r, l, v, h => by
    simp only [assoc] at h
    split at h
    · rename_i e; injection h with h; subst e h; simp
    · exact List.mem_cons_of_mem _ (assoc_mem h)
theorem uniq_inj : ∀ {ρ : List (Nat × Nat)}, uniq ρ = true → ∀ p ∈ ρ, ∀ q ∈ ρ, p.2 = q.2 → p = q
  | [], _, p, hp, _, _, _ => by cases hp
  | x :: r, h, p, hp, q, hq, e => by
    simp only [uniq, Bool.and_eq_true, Bool.not_eq_true', List.any_eq_false, beq_iff_eq] at h
    rcases List.mem_cons.1 hp with e1 | hp2
    · rcases List.mem_cons.1 hq with e2 | hq2
      · rw [e1, e2]
      · rw [e1] at e; exact absurd e.symm (h.1 q hq2)
    · rcases List.mem_cons.1 hq with e2 | hq2
      · rw [e2] at e; exact absurd e (h.1 p hp2)
      · exact uniq_inj h.2 p hp2 q hq2 e
theorem disj_not : ∀ {ls : List Nat} {ρ : List (Nat × Nat)}, disj ls ρ = true → ∀ p ∈ ρ, p.2 ∉ ls
  | [], _, _, p, _ => by simp
  | l :: r, ρ, h, p, hp => by
    simp only [disj, Bool.and_eq_true, Bool.not_eq_true', List.any_eq_false, beq_iff_eq] at h
    simp only [List.mem_cons, not_or]
    exact ⟨h.1 p hp, disj_not h.2 p hp⟩
/-- The new names. -/
def reψ (ρ : List (Nat × Nat)) (ψ : Nat → Value) : Nat → Value := fun l => match assoc ρ l with
  | some l0 => ψ l0
  | none => .tuple #[]
structure Ren (ρ : List (Nat × Nat)) (hp hp' : Hp) : Prop where
  dom : ∀ l ob, hp' l = some ob → ∃ l0 ob0, assoc ρ l = some l0 ∧ hp l0 = some ob0 ∧ oble ρ hp ob ob0
  inj : ∀ p ∈ ρ, ∀ q ∈ ρ, p.2 = q.2 → p = q
  cod : ∀ p ∈ ρ, ∃ ob, hp' p.1 = some ob
theorem Ren.mu {ρ : List (Nat × Nat)} {hp hp' : Hp} (r : Ren ρ hp hp') {ls : List Nat} (hd : ∀ p ∈ ρ, p.2 ∉ ls) : ∀ b, Mu M hp' (reψ ρ ψ) b → Mu M (kill hp ls) ψ b := by
  rintro b (q | ⟨l, ob, h1, h2⟩)
  · exact .inl q
  · obtain ⟨l0, ob0, k1, k2, _⟩ := r.dom l ob h1
    refine .inr ⟨l0, ob0, by rw [kill_not (hd _ (assoc_mem k1))]; exact k2, ?_⟩
    simpa [reψ, k1] using h2
mutual
theorem avle_ok {ρ : List (Nat × Nat)} {hp hp' : Hp} (h0 : HOK P B M hp ψ w) (r : Ren ρ hp hp') : ∀ {tgt src : AV} {v : Value}, avle ρ hp tgt src → AVR P hp ψ w (Mu M hp ψ) src v → AVR P hp' (reψ ρ ψ) w (Mu M hp' (reψ ρ ψ)) tgt v
  | .top, _, _, _, _ => trivial
  | .val t d, src, v, h, q => by
    unfold avle at h
    split at h
    · rename_i d' ls hr
      obtain ⟨rfl, hd⟩ := h
      have := rd_ok h0 (fun _ _ h => h) hr q (ls' := ls) (fun _ h => h)
      exact ⟨this.1, this.2.less (r.mu (disj_not hd)) (kill_bound h0 ls)⟩
    · exact h.elim
  | .own l, src, v, h, q => by
    intro ob hl
    obtain ⟨l0, ob0, k1, k2, _⟩ := r.dom l ob hl
    unfold avle at h
    rw [k1] at h
    simp only at h
    split at h
    · subst h
      rw [q ob0 k2]; simp [reψ, k1]
    · exact h.elim
  | .ptr l o, src, v, h, q => by
    intro ob hl
    obtain ⟨l0, ob0, k1, k2, _⟩ := r.dom l ob hl
    unfold avle at h
    rw [k1] at h
    simp only at h
    split at h
    · obtain ⟨rfl, rfl⟩ := h
      have := q ob0 k2
      simpa [reψ, k1] using this
    · exact h.elim
  | .cst u, src, v, h, q => by
    unfold avle at h
    split at h
    · subst h; exact q
    · exact h.elim
  | .agg cs, src, v, h, q => by
    unfold avle at h
    split at h
    · obtain ⟨us, e, q1, q2⟩ := q
      exact ⟨us, e, avles_ok h0 r h q1, q2⟩
    · exact h.elim
  | .tup cs, src, v, h, q => by
    unfold avle at h
    split at h
    · obtain ⟨us, e, q1⟩ := q
      exact ⟨us, e, avles_ok h0 r h q1⟩
    · exact h.elim
  | .clo f cs, src, v, h, q => by
    unfold avle at h
    split at h
    · obtain ⟨rfl, h⟩ := h
      obtain ⟨us, e, q1⟩ := q
      exact ⟨us, e, avles_ok h0 r h q1⟩
    · exact h.elim
  | .eptr _ _ _, _, _, h, _ => by unfold avle at h; exact h.elim
  | .whn _ _, _, _, h, _ => by unfold avle at h; exact h.elim
theorem avles_ok {ρ : List (Nat × Nat)} {hp hp' : Hp} (h0 : HOK P B M hp ψ w) (r : Ren ρ hp hp') : ∀ {tgt src : List AV} {vs : List Value}, avles ρ hp tgt src → AVRs P hp ψ w (Mu M hp ψ) src vs → AVRs P hp' (reψ ρ ψ) w (Mu M hp' (reψ ρ ψ)) tgt vs
  | [], src, vs, h, q => by
    cases src with
    | nil => exact q
    | cons _ _ => unfold avles at h; exact h.elim
  | x :: t, src, vs, h, q => by
    cases src with
    | nil => unfold avles at h; exact h.elim
    | cons y s =>
      unfold avles at h
      obtain ⟨v, u, e, q1, q2⟩ := q
      exact ⟨v, u, e, avle_ok h0 r h.1 q1, avles_ok h0 r h.2 q2⟩
end
theorem tmle_at {ρ : List (Nat × Nat)} {hp : Hp} {src : List (Nat × AV)} : ∀ {tgt : List (Nat × AV)}, tmle ρ hp src tgt → ∀ t, avle ρ hp (tmG tgt t) (tmG src t)
  | [], _, t => by simp only [tmG]; unfold avle; trivial
  | (k, v) :: r, h, t => by
    simp only [tmG]
    unfold tmle at h
    split
    · rename_i e; subst e; exact h.1
    · exact tmle_at h.2 t
theorem tmG_mem {l : List (Nat × AV)} {t : Nat} : tmG l t = .top ∨ (t, tmG l t) ∈ l := by
  induction l with
  | nil => exact .inl rfl
  | cons p r ih =>
    obtain ⟨k, v⟩ := p
    simp only [tmG]
    split
    · rename_i e; subst e; exact .inr (by simp)
    · rcases ih with q | q
      · exact .inl q
      · exact .inr (by simp [q])
theorem look_mem : ∀ {h : List (Nat × OB)} {l : Nat} {ob : OB}, look h l = some ob → (l, ob) ∈ h
  | (k, o) :: r, l, ob, h => by
    simp only [look] at h
    split at h
    · rename_i e; injection h with h; subst e h; simp
    · exact List.mem_cons_of_mem _ (look_mem h)
theorem hple_at {ρ : List (Nat × Nat)} {hp : Hp} : ∀ {h : List (Nat × OB)}, hple ρ hp h → ∀ l ob, (l, ob) ∈ h → ∃ l0 ob0, assoc ρ l = some l0 ∧ hp l0 = some ob0 ∧ oble ρ hp ob ob0
  | [], _, l, ob, hm => by cases hm
  | (k, o) :: r, h, l, ob, hm => by
    unfold hple at h
    rcases List.mem_cons.1 hm with e | hm
    · simp only [Prod.mk.injEq] at e
      obtain ⟨rfl, rfl⟩ := e
      have h1 := h.1
      split at h1
      · exact h1.elim
      · rename_i l0 hl0
        split at h1
        · rename_i ob0 hob0; exact ⟨l0, ob0, hl0, hob0, h1⟩
        · exact h1.elim
    · exact hple_at h.2 l ob hm
theorem look_some : ∀ {h : List (Nat × OB)} {l : Nat}, (h.any fun q => q.1 == l) = true → ∃ ob, look h l = some ob
  | (k, o) :: r, l, h => by
    simp only [List.any_cons, Bool.or_eq_true, beq_iff_eq] at h
    simp only [look]
    by_cases e : l = k
    · rw [if_pos e]; exact ⟨o, rfl⟩
    · rw [if_neg e]; exact look_some (h.resolve_left (Ne.symm e))
theorem le_of {st s : AS} {ρ : List (Nat × Nat)} (h : asle ρ st s) : AS.le P n st s := by
  intro B M w0 ψ a w sim
  obtain ⟨h1, h2, h3, h4, h5⟩ := h
  have k2 := tmle_at h1
  have r : Ren ρ (look st.hp) (look s.hp) := by
    refine ⟨fun l ob hl => hple_at h2 l ob (look_mem hl), uniq_inj h3, fun p hp => ?_⟩
    unfold sub at h4
    rw [List.all_eq_true] at h4
    exact look_some (h4 p hp)
  have hmu : ∀ b, Mu M (look s.hp) (reψ ρ ψ) b → Mu M (look st.hp) ψ b := fun b q => by
    have := r.mu (M := M) (ψ := ψ) (ls := []) (fun _ _ => by simp) b q
    rwa [kill_nil] at this
  unfold locOk at h5
  simp only [Bool.and_eq_true, List.all_eq_true, decide_eq_true_eq] at h5
  refine ⟨reψ ρ ψ, ⟨fun l ob hlo => ?_, fun l l' ob ob' b q1 q2 q3 q4 => ?_, sim.hok.mb, sim.hok.bz⟩, fun t => ?_, sim.size, sim.defers, fun t l hl => ?_, fun l ob hl => ?_, sim.bel⟩
  · obtain ⟨l0, ob0, k3, k4, k5⟩ := r.dom l ob hlo
    have h0 := sim.hok.ob l0 ob0 k4
    have hψ : reψ ρ ψ l = ψ l0 := by simp [reψ, k3]
    cases ob with
    | box T cs =>
      cases ob0 with
      | row _ _ _ => exact k5.elim
      | box U ds =>
        obtain ⟨rfl, k5⟩ := k5
        obtain ⟨b, cells, e, hB, hg, q, q1⟩ := h0
        exact ⟨b, cells, by rw [hψ]; exact e, hB, hg, avles_ok sim.hok r k5 q, q1⟩
    | row e t xs =>
      cases ob0 with
      | box _ _ => exact k5.elim
      | row f u ys =>
        obtain ⟨rfl, k5⟩ := k5
        obtain ⟨q, q'⟩ := cast?_some k5
        injection q with q; subst q
        simp only at q'; subst q'
        obtain ⟨cells, hown, hrow⟩ := h0
        exact ⟨cells, by rw [hψ]; exact hown, hrow.mono fun x _ c q => q.less hmu sim.hok.mu⟩
  · obtain ⟨l0, ob0, k3, k4, _⟩ := r.dom l ob q1
    obtain ⟨l1, ob1, k5, k6, _⟩ := r.dom l' ob' q2
    have e : l0 = l1 := sim.hok.dj l0 l1 ob0 ob1 b k4 k6 (by simpa [reψ, k3] using q3) (by simpa [reψ, k5] using q4)
    have := r.inj _ (assoc_mem k3) _ (assoc_mem k5) e
    exact congrArg Prod.fst this
  · exact avle_ok sim.hok r (k2 t) (sim.av t)
  · rcases tmG_mem (l := s.tm) (t := t) with q | q
    · rw [q] at hl; cases hl
    · exact ltAll_mem (h5.1 _ q) l hl
  · have := h5.2 _ (look_mem hl)
    exact ⟨this.1, ltAll_mem this.2⟩
end
end T
end Go.Proofs.Ytecmckoglgdicaa
