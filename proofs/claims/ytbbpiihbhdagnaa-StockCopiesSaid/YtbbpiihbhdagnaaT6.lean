/- Typed abstract walk, part 6: each operation does what the walk says (1). -/
import Derived.Test.YtbbpiihbhdagnaaT5
namespace Go.Proofs.Ytbbpiihbhdagnaa
set_option linter.unusedVariables false
set_option linter.unusedSimpArgs false
open Go.RowKit
namespace T
theorem opOk_eq {y : Operand} {x : XA} (h : opOk y x = true) : y = x.opnd ∧ x.ok := by
  unfold opOk at h
  split at h <;> (try simp only [Bool.and_eq_true, beq_iff_eq, decide_eq_true_eq] at h) <;> (try (cases h; done))
  · subst h; exact ⟨rfl, trivial⟩
  · obtain ⟨⟨⟨rfl, rfl⟩, h1⟩, h2⟩ := h; exact ⟨rfl, h1, h2⟩
  · subst h; exact ⟨rfl, trivial⟩
  · obtain ⟨rfl, h1⟩ := h; exact ⟨rfl, h1⟩
  · exact ⟨rfl, trivial⟩
  · exact ⟨rfl, trivial⟩
  · exact ⟨rfl, trivial⟩
  · subst h; exact ⟨rfl, trivial⟩
theorem opsOk_eq : ∀ {ys : List Operand} {xs : List XA}, opsOk ys xs = true → ys = xs.map XA.opnd
  | [], [], _ => rfl
  | y :: ys, x :: xs, h => by
    simp only [opsOk, Bool.and_eq_true] at h
    rw [List.map_cons, ← (opOk_eq h.1).1, ← opsOk_eq h.2]
  | [], _ :: _, h => by simp [opsOk] at h
  | _ :: _, [], h => by simp [opsOk] at h
section
variable {P : Program} {B : Nat} {M : Nat → Prop} {hp lh : Hp} {ψ : Nat → Value} {w w' : World} {fr : Nat} {C : List Ent} {o : Oper} {a : Act}
theorem avr1 {hp : Hp} {M : Nat → Prop} {x : AV} {vs : List Value} (h : AVRs P hp ψ w M [x] vs) : ∃ v, vs = [v] ∧ AVR P hp ψ w M x v := by
  obtain ⟨v, r, rfl, q, rfl⟩ := h; exact ⟨v, rfl, q⟩
theorem avr2 {hp : Hp} {M : Nat → Prop} {x y : AV} {vs : List Value} (h : AVRs P hp ψ w M [x, y] vs) : ∃ v u, vs = [v, u] ∧ AVR P hp ψ w M x v ∧ AVR P hp ψ w M y u := by
  obtain ⟨v, r, rfl, q, u, s, rfl, q', rfl⟩ := h; exact ⟨v, u, rfl, q, q'⟩
theorem avr3 {hp : Hp} {M : Nat → Prop} {x y z : AV} {vs : List Value} (h : AVRs P hp ψ w M [x, y, z] vs) : ∃ v u s, vs = [v, u, s] ∧ AVR P hp ψ w M x v ∧ AVR P hp ψ w M y u ∧ AVR P hp ψ w M z s := by
  obtain ⟨v, r, rfl, q, u, s, rfl, q', z, t, rfl, q'', rfl⟩ := h; exact ⟨v, u, z, rfl, q, q', q''⟩
theorem avr_int {hp : Hp} {M : Nat → Prop} {k : IntKind} {n : Int} {v : Value} (h : AVR P hp ψ w M (.val (.int k) n) v) : v = .int k n ∧ k.min ≤ n ∧ n ≤ k.max := by
  have := (RdV.one (t := .int k) h rfl rfl).1
  exact ⟨by simpa using this.1, this.2⟩
theorem avr_bool {hp : Hp} {M : Nat → Prop} {b : Bool} {v : Value} (h : AVR P hp ψ w M (.val .bool b) v) : v = .bool b := by
  have := (RdV.one (t := .bool) h rfl rfl).1
  simpa [Rd] using this
theorem avr_str {hp : Hp} {M : Nat → Prop} {b : ByteArray} {v : Value} (h : AVR P hp ψ w M (.val .str b) v) : v = .string b := by
  have := (RdV.one (t := .str) h rfl rfl).1
  simpa using this.1
theorem int_avr {hp : Hp} {M : Nat → Prop} {k : IntKind} {n : Int} (h : k.min ≤ n ∧ n ≤ k.max) : AVR P hp ψ w M (.val (.int k) n) (.int k n) :=
  ⟨by unfold Ty.shape Ty.isSt; simp, rfl, h.1, h.2⟩
theorem bool_avr {hp : Hp} {M : Nat → Prop} {b : Bool} : AVR P hp ψ w M (.val .bool b) (.bool b) :=
  ⟨by unfold Ty.shape Ty.isSt; simp, rfl⟩
theorem wrap_range (k : IntKind) (n : Int) : k.min ≤ k.wrap n ∧ k.wrap n ≤ k.max := by
  cases k <;> simp only [IntKind.min, IntKind.max, IntKind.wrap, IntKind.signed, IntKind.bits] <;> (simp; first | omega | (split <;> omega))
theorem tmod_range (k : IntKind) {x : Int} (y : Int) (h : k.min ≤ x ∧ x ≤ k.max) : k.min ≤ x.tmod y ∧ x.tmod y ≤ k.max := by
  have h0 : k.min ≤ 0 ∧ 0 ≤ k.max := by cases k <;> decide
  rcases Int.le_total 0 x with c | c
  · have h1 := Int.tmod_nonneg y c
    have h2 : x.tmod y ≤ x := by
      have := Int.natAbs_tmod x y
      have := Nat.mod_le x.natAbs y.natAbs
      omega
    omega
  · have h1 : x.tmod y ≤ 0 := by
      have := Int.tmod_nonneg y (show (0 : Int) ≤ -x by omega)
      rw [Int.neg_tmod] at this; omega
    have h2 : x ≤ x.tmod y := by
      have := Int.natAbs_tmod x y
      have := Nat.mod_le x.natAbs y.natAbs
      omega
    omega
theorem fdiv_range (k : IntKind) {x : Int} (n : Nat) (h : k.min ≤ x ∧ x ≤ k.max) : k.min ≤ x.fdiv (2 ^ n) ∧ x.fdiv (2 ^ n) ≤ k.max := by
  have h0 : k.min ≤ 0 ∧ 0 ≤ k.max := by cases k <;> decide
  have hp : (0 : Int) < 2 ^ n := Int.pow_pos (by decide)
  rw [Int.fdiv_eq_ediv_of_nonneg _ (Int.le_of_lt hp)]
  rcases Int.le_total 0 x with c | c
  · have h1 : 0 ≤ x / 2 ^ n := Int.ediv_nonneg c (Int.le_of_lt hp)
    have h2 : x / 2 ^ n ≤ x := Int.ediv_le_self _ c
    omega
  · have h1 : x / 2 ^ n ≤ 0 := Int.ediv_nonpos_of_nonpos_of_neg c hp
    have h2 : x ≤ x / 2 ^ n := by
      rw [Int.le_ediv_iff_mul_le hp]
      have h1 : (1 : Int) ≤ 2 ^ n := hp
      have := Int.mul_le_mul_of_nonpos_left c h1
      simpa using this
    omega

/-! Operations on numbers. -/
theorem intBin_ok {op : BinOp} {T : TypeId} {X Y : Operand} {yt : TypeId} {k : IntKind} {x y : Int} {p : Prop} {av : AV} (ho : o.op = .binOp op T X Y yt) (hX : a.eval X = .int k x) (hY : a.eval Y = .int k y)
    (hx : k.min ≤ x ∧ x ≤ k.max) (h : intBin op k x y = some (p, av)) (hp' : p) (c : Ctx P B M hp ψ w fr) : Does P o a w (OpPost P B M hp ψ w fr (pur av)) := by
  have key : ∀ v, AVR P hp ψ w (Mu M hp ψ) av v → (execOp a.eval o).run P w = .ok (.value v) w → Does P o a w (OpPost P B M hp ψ w fr (pur av)) := fun v h1 h2 => does_run h2 (c.pure h1)
  cases op <;> simp only [intBin, Option.some.injEq, Prod.mk.injEq, reduceCtorEq] at h <;> obtain ⟨rfl, rfl⟩ := h
  case quo => refine key _ (int_avr (wrap_range _ _)) ?_; unfold execOp; simp [ho, hX, hY, binOp, eqGuard, Op.intDiv, hp']
  case rem => refine key _ (int_avr (tmod_range _ _ hx)) ?_; unfold execOp; simp [ho, hX, hY, binOp, eqGuard, Op.intDiv, hp']
  case add => refine key _ (int_avr (wrap_range _ _)) ?_; unfold execOp; simp [ho, hX, hY, binOp, eqGuard, Op.intArith]
  case sub => refine key _ (int_avr (wrap_range _ _)) ?_; unfold execOp; simp [ho, hX, hY, binOp, eqGuard, Op.intArith]
  case mul => refine key _ (int_avr (wrap_range _ _)) ?_; unfold execOp; simp [ho, hX, hY, binOp, eqGuard, Op.intArith]
  case and => refine key _ (int_avr (wrap_range _ _)) ?_; unfold execOp; simp [ho, hX, hY, binOp, eqGuard, Op.intBits]
  case or => refine key _ (int_avr (wrap_range _ _)) ?_; unfold execOp; simp [ho, hX, hY, binOp, eqGuard, Op.intBits]
  case xor => refine key _ (int_avr (wrap_range _ _)) ?_; unfold execOp; simp [ho, hX, hY, binOp, eqGuard, Op.intBits]
  case andNot => refine key _ (int_avr (wrap_range _ _)) ?_; unfold execOp; simp [ho, hX, hY, binOp, eqGuard, Op.intBits]
  all_goals (refine key _ bool_avr ?_; unfold execOp; simp [ho, hX, hY, binOp, eqGuard, Op.intCmp])
theorem bin_ok {op : BinOp} {T : TypeId} {X Y : Operand} {yt : TypeId} {x y : AV} {p : Prop} {av : AV} (ho : o.op = .binOp op T X Y yt)
    (hX : AVR P hp ψ w (Mu M hp ψ) x (a.eval X)) (hY : AVR P hp ψ w (Mu M hp ψ) y (a.eval Y)) (h : binx op x y = some (p, av)) (hp' : p) (c : Ctx P B M hp ψ w fr) : Does P o a w (OpPost P B M hp ψ w fr (pur av)) := by
  unfold binx at h
  split at h
  · rename_i k x k' y
    obtain ⟨e1, r1⟩ := avr_int hX
    obtain ⟨e2, r2⟩ := avr_int hY
    split at h
    · simp only [Option.some.injEq, Prod.mk.injEq] at h
      obtain ⟨rfl, rfl⟩ := h
      refine does_run ?_ (c.pure (int_avr (wrap_range _ _)))
      unfold execOp; simp [ho, e1, e2, binOp, eqGuard, Op.shift, Int.not_lt.2 hp']
    · simp only [Option.some.injEq, Prod.mk.injEq] at h
      obtain ⟨rfl, rfl⟩ := h
      refine does_run ?_ (c.pure (int_avr (fdiv_range _ _ r1)))
      unfold execOp; simp [ho, e1, e2, binOp, eqGuard, Op.shift, Int.not_lt.2 hp']
    · split at h
      · rename_i ek; subst ek
        exact intBin_ok ho e1 e2 r1 h hp' c
      · cases h
  · cases h
theorem beq_ok {op : BinOp} {neg : Bool} {t : Ty} {T : TypeId} {X Y : Operand} {yt : TypeId} {x y : AV} {b : Bool} (ho : o.op = .binOp op T X Y yt) (hop : op = if neg then .neq else .eql)
    (hT : (match t, P.underlying T with | .bool, some .bool | .str, some .string => true | _, _ => false) = true)
    (hX : AVR P hp ψ w (Mu M hp ψ) x (a.eval X)) (hY : AVR P hp ψ w (Mu M hp ψ) y (a.eval Y)) (h : eqx t x y = some b) (c : Ctx P B M hp ψ w fr) : Does P o a w (OpPost P B M hp ψ w fr (pur (.val .bool (if neg then !b else b)))) := by
  subst hop
  unfold eqx at h
  split at h
  · rename_i x y
    have e1 := avr_bool hX
    have e2 := avr_bool hY
    injection h with h; subst h
    refine does_run ?_ (c.pure bool_avr)
    split at hT
    · rename_i hu
      have he : (Op.equal T (.bool x) (.bool y)).run P w = .ok (x == y) w := by
        unfold Op.equal Op.maxDepth
        rw [show (10000 : Nat) = 9999 + 1 from rfl, Op.equalIn]
        simp [run_underlying hu]
      cases neg <;> (unfold execOp; simp only [ho, e1, e2, binOp, eqGuard, if_true, if_false, Bool.false_eq_true]; simp [he])
    · rename_i q _; cases q
    · cases hT
  · rename_i x y
    have e1 := avr_str hX
    have e2 := avr_str hY
    injection h with h; subst h
    refine does_run ?_ (c.pure bool_avr)
    cases neg <;> (unfold execOp; simp [ho, e1, e2, binOp, eqGuard, Op.stringOp]; try rfl)
  · cases h
end
end T
end Go.Proofs.Ytbbpiihbhdagnaa
