/- Typed abstract walk, part 3: parts of data, and abstract values read as data. -/
import Derived.Test.YtbbpiihbhdagnaaT2
import Derived.Deep.MidRow
namespace Go.Proofs.Ytbbpiihbhdagnaa
set_option linter.unusedVariables false
set_option linter.unusedSimpArgs false
open Go.RowKit
namespace T

def Ty.dflt : (t : Ty) → t.den
  | .bool => false
  | .int _ => (0 : Int)
  | .str => ByteArray.empty
  | .sl _ => []
  | .ptr t => t.dflt
  | .st t => t.dflt
  | .nil => ()
  | .cons a b => (a.dflt, b.dflt)
  | .fn _ r => fun _ => r.dflt
  | .fn2 _ _ r => fun _ _ => r.dflt
  | .mp _ _ => []
def cast? (t t' : Ty) (d : t'.den) : Option t.den := if h : t' = t then some (cast (congrArg Ty.den h) d) else none
@[simp] theorem cast?_self (t : Ty) (d : t.den) : cast? t t d = some d := by simp [cast?]
theorem cast?_some {t t' : Ty} {d : t'.den} {e : t.den} (h : cast? t t' d = some e) : ∃ q : t' = t, q ▸ d = e := by
  unfold cast? at h
  split at h
  · rename_i q; subst q; refine ⟨rfl, ?_⟩; simpa using h
  · cases h
/-- The part of data that lies at a cell offset. -/
def proj (ft : Ty) : (t : Ty) → t.den → Nat → Option ft.den
  | .st t, d, off => if off = 0 ∧ Ty.st t = ft then cast? ft (.st t) d else proj ft t d off
  | .cons a b, d, off => if off < a.size then proj ft a d.1 off else proj ft b d.2 (off - a.size)
  | .nil, _, _ => none
  | .bool, d, off => if off = 0 then cast? ft .bool d else none
  | .int k, d, off => if off = 0 then cast? ft (.int k) d else none
  | .str, d, off => if off = 0 then cast? ft .str d else none
  | .sl t, d, off => if off = 0 then cast? ft (.sl t) d else none
  | .ptr t, d, off => if off = 0 then cast? ft (.ptr t) d else none
  | .fn a r, d, off => if off = 0 then cast? ft (.fn a r) d else none
  | .fn2 a b r, d, off => if off = 0 then cast? ft (.fn2 a b r) d else none
  | .mp k t, d, off => if off = 0 then cast? ft (.mp k t) d else none
def upd (ft : Ty) (e : ft.den) : (t : Ty) → t.den → Nat → Option t.den
  | .st t, d, off => if off = 0 ∧ Ty.st t = ft then cast? (.st t) ft e else upd ft e t d off
  | .cons a b, d, off => if off < a.size then (upd ft e a d.1 off).map fun x => (x, d.2) else (upd ft e b d.2 (off - a.size)).map fun y => (d.1, y)
  | .nil, _, _ => none
  | .bool, _, off => if off = 0 then cast? .bool ft e else none
  | .int k, _, off => if off = 0 then cast? (.int k) ft e else none
  | .str, _, off => if off = 0 then cast? .str ft e else none
  | .sl t, _, off => if off = 0 then cast? (.sl t) ft e else none
  | .ptr t, _, off => if off = 0 then cast? (.ptr t) ft e else none
  | .fn a r, _, off => if off = 0 then cast? (.fn a r) ft e else none
  | .fn2 a b r, _, off => if off = 0 then cast? (.fn2 a b r) ft e else none
  | .mp k t, _, off => if off = 0 then cast? (.mp k t) ft e else none
def scatter : (t : Ty) → t.den → List AV
  | .st t, d => scatter t d
  | .nil, _ => []
  | .cons a b, d => scatter a d.1 ++ scatter b d.2
  | .bool, d => [.val .bool d]
  | .int k, d => [.val (.int k) d]
  | .str, d => [.val .str d]
  | .sl t, d => [.val (.sl t) d]
  | .ptr t, d => [.val (.ptr t) d]
  | .fn a r, d => [.val (.fn a r) d]
  | .fn2 a b r, d => [.val (.fn2 a b r) d]
  | .mp k t, d => [.val (.mp k t) d]

section
variable {P : Program} {w : World} {M : Nat → Prop}
theorem cast?_rd {t t' : Ty} {d : t'.den} {e : t.den} (h : cast? t t' d = some e) {cs : List Value} (q : Rd P t' w M d cs) : Rd P t w M e cs := by
  obtain ⟨rfl, rfl⟩ := cast?_some h; exact q
theorem cast?_rdv {t t' : Ty} {d : t'.den} {e : t.den} (h : cast? t t' d = some e) {v : Value} (q : RdV P t' w M d v) : RdV P t w M e v := by
  obtain ⟨rfl, rfl⟩ := cast?_some h; exact q
theorem cell0 {t t' : Ty} {d : t'.den} {e : t.den} {off : Nat} (h : (if off = 0 then cast? t t' d else none) = some e) {cs : List Value} (q : Rd P t' w M d cs) :
    ∃ c1 c c2, cs = c1 ++ c ++ c2 ∧ c1.length = off ∧ Rd P t w M e c := by
  split at h
  · rename_i h0; subst h0; exact ⟨[], cs, [], by simp, rfl, cast?_rd h q⟩
  · cases h
theorem proj_rd {ft : Ty} : ∀ {t : Ty} {d : t.den} {off : Nat} {e : ft.den} {cs : List Value}, Rd P t w M d cs → proj ft t d off = some e → ∃ c1 c c2, cs = c1 ++ c ++ c2 ∧ c1.length = off ∧ Rd P ft w M e c
  | .st t, d, off, e, cs, q, h => by
    unfold proj at h
    split at h
    · rename_i h0; exact ⟨[], cs, [], by simp, h0.1.symm, cast?_rd h q⟩
    · exact proj_rd (t := t) q h
  | .cons a b, d, off, e, cs, ⟨k1, k2, e0, q1, q2⟩, h => by
    unfold proj at h
    have hl := q1.len
    split at h
    · obtain ⟨c1, c, c2, e1, h1, h2⟩ := proj_rd (t := a) q1 h
      exact ⟨c1, c, c2 ++ k2, by rw [e0, e1]; simp, h1, h2⟩
    · obtain ⟨c1, c, c2, e1, h1, h2⟩ := proj_rd (t := b) q2 h
      exact ⟨k1 ++ c1, c, c2, by rw [e0, e1]; simp, by rw [List.length_append]; omega, h2⟩
  | .nil, _, _, _, _, _, h => by simp [proj] at h
  | .bool, _, _, _, _, q, h => cell0 h q
  | .int _, _, _, _, _, q, h => cell0 h q
  | .str, _, _, _, _, q, h => cell0 h q
  | .sl _, _, _, _, _, q, h => cell0 h q
  | .ptr _, _, _, _, _, q, h => cell0 h q
  | .fn _ _, _, _, _, _, q, h => cell0 h q
  | .fn2 _ _ _, _, _, _, _, q, h => cell0 h q
  | .mp _ _, _, _, _, _, q, h => cell0 h q
theorem upd0 {ft t : Ty} {d : t.den} {e : ft.den} {off : Nat} {d' : t.den} (h : (if off = 0 then cast? t ft e else none) = some d') {cs c : List Value} (q : Rd P t w M d cs) (qc : Rd P ft w M e c) :
    ∃ c1 c0 c2, cs = c1 ++ c0 ++ c2 ∧ c1.length = off ∧ c0.length = c.length ∧ Rd P t w M d' (c1 ++ c ++ c2) := by
  split at h
  · rename_i h0
    have q' := cast?_rd h qc
    exact ⟨[], cs, [], by simp, h0.symm, by rw [q.len, q'.len], by simpa using q'⟩
  · cases h
theorem upd_rd {ft : Ty} {e : ft.den} {c : List Value} (qc : Rd P ft w M e c) : ∀ {t : Ty} {d : t.den} {off : Nat} {d' : t.den} {cs : List Value}, Rd P t w M d cs → upd ft e t d off = some d' →
    ∃ c1 c0 c2, cs = c1 ++ c0 ++ c2 ∧ c1.length = off ∧ c0.length = c.length ∧ Rd P t w M d' (c1 ++ c ++ c2)
  | .st t, d, off, d', cs, q, h => by
    unfold upd at h
    split at h
    · rename_i h0
      have q' := cast?_rd h qc
      exact ⟨[], cs, [], by simp, h0.1.symm, by rw [q.len, q'.len], by simpa using q'⟩
    · exact upd_rd qc (t := t) q h
  | .cons a b, d, off, d', cs, ⟨k1, k2, e0, q1, q2⟩, h => by
    unfold upd at h
    have hl := q1.len
    split at h
    · obtain ⟨x, hx, rfl⟩ := Option.map_eq_some_iff.1 h
      obtain ⟨c1, c0, c2, e1, h1, h2, h3⟩ := upd_rd qc (t := a) q1 hx
      exact ⟨c1, c0, c2 ++ k2, by rw [e0, e1]; simp, h1, h2, _, k2, by simp, h3, q2⟩
    · obtain ⟨x, hx, rfl⟩ := Option.map_eq_some_iff.1 h
      obtain ⟨c1, c0, c2, e1, h1, h2, h3⟩ := upd_rd qc (t := b) q2 hx
      exact ⟨k1 ++ c1, c0, c2, by rw [e0, e1]; simp, by rw [List.length_append]; omega, h2, k1, _, by simp, q1, h3⟩
  | .nil, _, _, _, _, _, h => by simp [upd] at h
  | .bool, _, _, _, _, q, h => upd0 h q qc
  | .int _, _, _, _, _, q, h => upd0 h q qc
  | .str, _, _, _, _, q, h => upd0 h q qc
  | .sl _, _, _, _, _, q, h => upd0 h q qc
  | .ptr _, _, _, _, _, q, h => upd0 h q qc
  | .fn _ _, _, _, _, _, q, h => upd0 h q qc
  | .fn2 _ _ _, _, _, _, _, q, h => upd0 h q qc
  | .mp _ _, _, _, _, _, q, h => upd0 h q qc
/-- One cell. -/
theorem Rd.cell {t : Ty} {d : t.den} {cs : List Value} (q : Rd P t w M d cs) (h1 : t.size = 1) (h2 : t.isSt = false) : ∃ v, cs = [v] ∧ RdV P t w M d v := by
  have hl := q.len
  rw [h1] at hl
  obtain ⟨v, rfl⟩ := List.length_eq_one_iff.1 hl
  have ho := q.one v (by simp)
  have hv : v.cells = #[v] := by cases v <;> simp_all [Value.cells, Value.oneCell']
  refine ⟨v, rfl, ⟨?_, by rw [hv]; exact q⟩⟩
  unfold Ty.shape
  rw [h2]
  constructor
  · rintro ⟨us, rfl⟩; simp [Value.oneCell'] at ho
  · intro h; cases h
theorem RdV.cell {t : Ty} {d : t.den} {v : Value} (q : RdV P t w M d v) (h2 : t.isSt = false) : Rd P t w M d [v] ∧ v.oneCell' = true ∨ ∃ vs, v = .tuple vs := by
  by_cases c : ∃ vs, v = .tuple vs
  · exact .inr c
  left
  have hs : ¬ ∃ cs, v = .agg cs := fun h => by have := q.1.1 h; rw [h2] at this; cases this
  have hv : v.cells = #[v] := by cases v <;> simp_all [Value.cells]
  have := q.2
  rw [hv] at this
  exact ⟨this, by cases v <;> simp_all [Value.oneCell']⟩
theorem RdV.one {t : Ty} {d : t.den} {v : Value} (q : RdV P t w M d v) (h2 : t.isSt = false) (h1 : t.size = 1) : Rd P t w M d [v] ∧ v.oneCell' = true := by
  have hs : ¬ ∃ cs, v = .agg cs := fun h => by have := q.1.1 h; rw [h2] at this; cases this
  have hv : v.cells = #[v] := by cases v <;> simp_all [Value.cells]
  have := q.2
  rw [hv] at this
  exact ⟨this, this.one v (by simp)⟩
variable {hp : Hp} {ψ : Nat → Value}
theorem AVRs.append {a b : List AV} {us vs : List Value} (h : AVRs P hp ψ w M a us) (h' : AVRs P hp ψ w M b vs) : AVRs P hp ψ w M (a ++ b) (us ++ vs) := by
  induction a generalizing us with
  | nil => obtain rfl : us = [] := h; exact h'
  | cons x xs ih => obtain ⟨v, r, rfl, h1, h2⟩ := h; exact ⟨v, r ++ vs, rfl, h1, ih h2⟩
theorem AVRs.len {a : List AV} {us : List Value} (h : AVRs P hp ψ w M a us) : us.length = a.length := by
  induction a generalizing us with
  | nil => obtain rfl : us = [] := h; rfl
  | cons x xs ih => obtain ⟨v, r, rfl, h1, h2⟩ := h; simp [ih h2]
theorem AVRs.at {a : List AV} {us : List Value} (h : AVRs P hp ψ w M a us) {i : Nat} {av : AV} (hi : a[i]? = some av) : ∃ v, us[i]? = some v ∧ AVR P hp ψ w M av v := by
  induction a generalizing us i with
  | nil => simp at hi
  | cons x xs ih =>
    obtain ⟨v, r, rfl, h1, h2⟩ := h
    cases i with
    | zero => simp at hi; subst hi; exact ⟨v, rfl, h1⟩
    | succ i => simpa using ih h2 (by simpa using hi)
theorem AVRs.drop {a : List AV} {us : List Value} (h : AVRs P hp ψ w M a us) (n : Nat) : AVRs P hp ψ w M (a.drop n) (us.drop n) := by
  induction a generalizing us n with
  | nil => obtain rfl : us = [] := h; simp [AVRs]
  | cons x xs ih =>
    cases n with
    | zero => exact h
    | succ n => obtain ⟨v, r, rfl, h1, h2⟩ := h; simpa using ih h2 n
theorem AVRs.take {a : List AV} {us : List Value} (h : AVRs P hp ψ w M a us) (n : Nat) : AVRs P hp ψ w M (a.take n) (us.take n) := by
  induction a generalizing us n with
  | nil => obtain rfl : us = [] := h; simp [AVRs]
  | cons x xs ih =>
    cases n with
    | zero => simp [AVRs]
    | succ n => obtain ⟨v, r, rfl, h1, h2⟩ := h; exact ⟨v, r.take n, rfl, h1, ih h2 n⟩
theorem scatter1 {t : Ty} {d : t.den} {cs : List Value} (q : Rd P t w M d cs) (h1 : t.size = 1) (h2 : t.isSt = false) : AVRs P hp ψ w M [.val t d] cs := by
  obtain ⟨v, rfl, h⟩ := q.cell h1 h2
  exact ⟨v, [], rfl, h, rfl⟩
theorem scatter_r : ∀ {t : Ty} {d : t.den} {cs : List Value}, Rd P t w M d cs → AVRs P hp ψ w M (scatter t d) cs
  | .st t, _, _, q => scatter_r (t := t) q
  | .nil, _, _, q => by obtain rfl : _ = [] := q; exact rfl
  | .cons a b, _, _, ⟨c1, c2, e, q1, q2⟩ => by rw [e]; exact AVRs.append (scatter_r q1) (scatter_r q2)
  | .bool, _, _, q => scatter1 q rfl rfl
  | .int _, _, _, q => scatter1 q rfl rfl
  | .str, _, _, q => scatter1 q rfl rfl
  | .sl _, _, _, q => scatter1 q rfl rfl
  | .ptr _, _, _, q => scatter1 q rfl rfl
  | .fn _ _, _, _, q => scatter1 q rfl rfl
  | .fn2 _ _ _, _, _, q => scatter1 q rfl rfl
  | .mp _ _, _, _, q => scatter1 q rfl rfl
end

/-! Abstract values read as data; the own blocks that are read with them are told. -/
def kill (hp : Hp) (ls : List Nat) : Hp := fun l => if l ∈ ls then none else hp l
def ofCst : (t : Ty) → Value → Option t.den
  | .sl _, .slice none 0 0 => some []
  | _, _ => none
def rd1 (lh : Hp) (t : Ty) : AV → Option (t.den × List Nat)
  | .val t' d => (cast? t t' d).map (·, [])
  | .own l => match lh l with
    | some (.row _ t' xs) => (cast? t (.sl t') xs).map (·, [l])
    | some (.mp k' t' xs) => (cast? t (.mp k' t') xs).map (·, [l])
    | _ => none
  | .cst v => (ofCst t v).map (·, [])
  | .sub l lo hi => match lh l with
    | some (.row _ t' xs) => (cast? t (.sl t') ((xs.take hi).drop lo)).map (·, [l])
    | _ => none
  | _ => none
def rd1c (lh : Hp) (t : Ty) : List AV → Option (t.den × List Nat × List AV)
  | a :: r => (rd1 lh t a).map fun x => (x.1, x.2, r)
  | [] => none
def rdc (lh : Hp) : (t : Ty) → List AV → Option (t.den × List Nat × List AV)
  | .st t, cs => rdc lh t cs
  | .nil, cs => some ((), [], cs)
  | .cons a b, cs => match rdc lh a cs with
    | some (x, l1, r) => match rdc lh b r with
      | some (y, l2, r') => some ((x, y), l1 ++ l2, r')
      | none => none
    | none => none
  | .bool, cs => rd1c lh .bool cs
  | .int k, cs => rd1c lh (.int k) cs
  | .str, cs => rd1c lh .str cs
  | .sl t, cs => rd1c lh (.sl t) cs
  | .ptr t, cs => rd1c lh (.ptr t) cs
  | .fn a r, cs => rd1c lh (.fn a r) cs
  | .fn2 a b r, cs => rd1c lh (.fn2 a b r) cs
  | .mp k t, cs => rd1c lh (.mp k t) cs
def rdAgg (lh : Hp) : (t : Ty) → List AV → Option (t.den × List Nat)
  | .st t, cs => match rdc lh t cs with
    | some (d, l, []) => some (d, l)
    | _ => none
  | _, _ => none
def rdPtr (lh : Hp) : (t : Ty) → Nat → List AV → Option (t.den × List Nat)
  | .ptr t, l, cs => match rdc lh t cs with
    | some (d, ls, []) => some (d, l :: ls)
    | _ => none
  | _, _, _ => none
def rd (lh : Hp) (t : Ty) : AV → Option (t.den × List Nat)
  | .agg cs => rdAgg lh t cs
  | .ptr l 0 => match lh l with
    | some (.box _ cs) => rdPtr lh t l cs
    | _ => none
  | a => rd1 lh t a

section
variable {P : Program} {B : Nat} {M : Nat → Prop} {hp lh : Hp} {ψ : Nat → Value} {w : World}
/-- Less may turn. -/
theorem Rd.less {M M' : Nat → Prop} (hs : ∀ b, M' b → M b) (hm : ∀ b, M b → b < w.heap.size) {t : Ty} {d : t.den} {cs : List Value} (q : Rd P t w M d cs) : Rd P t w M' d cs :=
  q.later ⟨Nat.le_refl _, fun _ _ _ => rfl, fun b _ h => hs b h, fun b h => hm b (hs b h)⟩
theorem kill_mu {ls : List Nat} : ∀ b, Mu M (kill hp ls) ψ b → Mu M hp ψ b := by
  rintro b (q | ⟨l, ob, h1, h2⟩)
  · exact .inl q
  · unfold kill at h1; split at h1
    · cases h1
    · exact .inr ⟨l, ob, h1, h2⟩
theorem Rd.kill (h : HOK P B M hp ψ w) (ls : List Nat) {t : Ty} {d : t.den} {cs : List Value} (q : Rd P t w (Mu M hp ψ) d cs) : Rd P t w (Mu M (T.kill hp ls) ψ) d cs := q.less kill_mu h.mu
theorem shape_sl {t : Ty} {A : Option Addr} {n c : Nat} : (Ty.sl t).shape (.slice A n c) := by unfold Ty.shape Ty.isSt; simp
theorem shape_ptr {t : Ty} {A : Option Addr} : (Ty.ptr t).shape (.pointer A) := by unfold Ty.shape Ty.isSt; simp
/-- An own row is read. -/
theorem rd_own (h : HOK P B M hp ψ w) {l : Nat} {e : TypeId} {t : Ty} {xs : List t.den} (hl : hp l = some (.row e t xs)) {ls : List Nat} (hin : l ∈ ls) : RdV P (.sl t) w (Mu M (kill hp ls) ψ) xs (ψ l) := by
  obtain ⟨cells, ⟨h1, h2⟩, hr⟩ := h.ob l _ hl
  rcases h2 with ⟨h2, h3⟩ | ⟨g, cap, cur, h2, hB, hg, hn, hc, hcs, ht⟩
  · rw [h2]
    refine ⟨shape_sl, none, 0, 0, rfl, h3, Nat.le_refl _, Nat.zero_le _, .inl rfl⟩
  · rw [h2]
    refine ⟨shape_sl, _, _, _, rfl, rfl, hn, hc, .inr ⟨g, 0, cells, rfl, lt_of_block hg, ?_, ?_, ?_⟩⟩
    · rintro (q | ⟨l', ob', q1, q2⟩)
      · exact h.md l _ g hl (by rw [h2]; rfl) q
      · unfold kill at q1
        split at q1
        · cases q1
        · rename_i hni
          exact hni (by rw [h.dj l' l ob' _ g q1 hl q2 (by rw [h2]; rfl)]; exact hin)
    · intro j v hj
      rw [Nat.zero_add]
      unfold World.cell?
      simp only [hg]
      rw [← ht, List.getElem?_take] at hj
      split at hj
      · simpa using hj
      · cases hj
    · exact hr.mono fun x _ c q => q.kill h ls
theorem shape_mp {k : IntKind} {t : Ty} {b : Option Nat} : (Ty.mp k t).shape (.map b) := by unfold Ty.shape Ty.isSt; simp
/-- An own map is read. -/
theorem rd_ownm (h : HOK P B M hp ψ w) {l : Nat} {k : IntKind} {t : Ty} {xs : List (Int × t.den)} (hl : hp l = some (.mp k t xs)) {ls : List Nat} (hin : l ∈ ls) : RdV P (.mp k t) w (Mu M (kill hp ls) ψ) xs (ψ l) := by
  obtain ⟨b, es, clock, e, hB, hg, q⟩ := h.ob l _ hl
  rw [e]
  refine ⟨shape_mp, b, es, clock, rfl, lt_of_block hg, ?_, hg, q⟩
  rintro (q | ⟨l', ob', q1, q2⟩)
  · exact h.md l _ b hl (by rw [e]; rfl) q
  · unfold kill at q1
    split at q1
    · cases q1
    · rename_i hni
      exact hni (by rw [h.dj l' l ob' _ b q1 hl q2 (by rw [e]; rfl)]; exact hin)
theorem live_sub (hlh : ∀ l ob, lh l = some ob → hp l = some ob) {l : Nat} {ob : OB} (h : lh l = some ob) : hp l = some ob := hlh l ob h
theorem RowsBy.cut {α : Type} {R : α → List Value → Prop} {n : Nat} (hR : ∀ x c, R x c → c.length = n) {xs : List α} {cs : List Value} (h : RowsBy R xs cs) (l m : Nat) (hl : l ≤ m) (hm : m ≤ xs.length) :
    ∃ c1 c c2, cs = c1 ++ c ++ c2 ∧ c1.length = l * n ∧ RowsBy R ((xs.take m).drop l) c := by
  have e : xs = (xs.take m).take l ++ (xs.take m).drop l ++ xs.drop m := by rw [List.take_append_drop, List.take_append_drop]
  rw [e] at h
  obtain ⟨c12, c3, rfl, h12, h3⟩ := h.split
  obtain ⟨c1, c2, rfl, h1, h2⟩ := h12.split
  refine ⟨c1, c2, c3, rfl, ?_, h2⟩
  rw [RowsBy.len hR h1]
  congr 1
  simp; omega
theorem slice_fin {t : Ty} {M' : Nat → Prop} {xs : List t.den} {v : Value} (hX : RdV P (.sl t) w M' xs v) (l h : Nat) (hlh : l ≤ h) (hh : h ≤ xs.length) :
    ∃ A n cp, v = .slice A n cp ∧ n = xs.length ∧ n ≤ cp ∧ RdV P (.sl t) w M' ((xs.take h).drop l) (sliced A l h cp t.size) := by
  obtain ⟨A, n, cp, e1, e2, e3, e4, e5⟩ := (RdV.one (t := .sl t) hX rfl rfl).1
  simp only [List.cons.injEq, and_true] at e1
  refine ⟨A, n, cp, e1, e2.symm, e3, ?_⟩
  have hlen : ((xs.take h).drop l).length = h - l := by simp; omega
  refine ⟨by unfold sliced; exact shape_sl, _, h - l, cp - l, by unfold sliced; rfl, hlen, by omega, by omega, ?_⟩
  rcases e5 with e5 | ⟨b, off, cc, rfl, h1, h2, h3, h4⟩
  · left; omega
  · by_cases c0 : h - l = 0
    · exact .inl c0
    · right
      obtain ⟨c1, c, c2, rfl, k1, k2⟩ := h4.cut (fun _ _ q => q.len) l h hlh hh
      refine ⟨b, off + l * t.size, c, ?_, h1, h2, ?_, k2⟩
      · rw [if_neg (by omega)]; simp [Addr.add_mid]
      · rw [← k1]; exact h3.left.right
theorem rd1_ok (h : HOK P B M hp ψ w) (hlh : ∀ l ob, lh l = some ob → hp l = some ob) {t : Ty} {a : AV} {d : t.den} {ls : List Nat} (hr : rd1 lh t a = some (d, ls)) {v : Value} (hv : AVR P hp ψ w (Mu M hp ψ) a v)
    {ls' : List Nat} (hs : ∀ l ∈ ls, l ∈ ls') : RdV P t w (Mu M (kill hp ls') ψ) d v := by
  unfold rd1 at hr
  split at hr
  · obtain ⟨x, hx, e⟩ := Option.map_eq_some_iff.1 hr
    simp only [Prod.mk.injEq] at e
    obtain ⟨rfl, rfl⟩ := e
    have := cast?_rdv hx hv
    exact ⟨this.1, this.2.kill h ls'⟩
  · rename_i l
    split at hr
    · rename_i e t' xs hl
      obtain ⟨x, hx, e⟩ := Option.map_eq_some_iff.1 hr
      simp only [Prod.mk.injEq] at e
      obtain ⟨rfl, rfl⟩ := e
      have hl' := hlh _ _ hl
      have := hv _ hl'
      subst this
      exact cast?_rdv hx (rd_own h hl' (hs l (by simp)))
    · rename_i k' t' xs hl
      obtain ⟨x, hx, e⟩ := Option.map_eq_some_iff.1 hr
      simp only [Prod.mk.injEq] at e
      obtain ⟨rfl, rfl⟩ := e
      have hl' := hlh _ _ hl
      have := hv _ hl'
      subst this
      exact cast?_rdv hx (rd_ownm h hl' (hs l (by simp)))
    · cases hr
  · obtain ⟨x, hx, e⟩ := Option.map_eq_some_iff.1 hr
    simp only [Prod.mk.injEq] at e
    obtain ⟨rfl, rfl⟩ := e
    obtain rfl : v = _ := hv
    unfold ofCst at hx
    split at hx
    · injection hx with hx; subst hx
      exact ⟨shape_sl, none, 0, 0, rfl, rfl, Nat.le_refl _, Nat.zero_le _, .inl rfl⟩
    · cases hx
  · rename_i l lo hi
    split at hr
    · rename_i e t' xs hl
      obtain ⟨x, hx, e⟩ := Option.map_eq_some_iff.1 hr
      simp only [Prod.mk.injEq] at e
      obtain ⟨rfl, rfl⟩ := e
      have hl' := hlh _ _ hl
      obtain ⟨hlo, A, n, c, e1, e2, rfl⟩ := hv _ _ _ hl'
      have hown := rd_own h hl' (hs l (by simp))
      have hlen : n = xs.length := by
        obtain ⟨A', n', c', q1, q2, _⟩ := (RdV.one (t := .sl t') hown rfl rfl).1
        rw [e1] at q1
        simp only [List.cons.injEq, Value.slice.injEq, and_true] at q1
        rw [q1.2.1]; exact q2.symm
      obtain ⟨A', n', c', q1, _, _, q4⟩ := slice_fin hown lo hi hlo (by omega)
      rw [e1] at q1
      simp only [Value.slice.injEq] at q1
      obtain ⟨rfl, _, rfl⟩ := q1
      exact cast?_rdv hx q4
    · cases hr
  · cases hr
theorem rd1c_ok (h : HOK P B M hp ψ w) (hlh : ∀ l ob, lh l = some ob → hp l = some ob) {t : Ty} {cs r : List AV} {d : t.den} {ls : List Nat} (h1 : t.size = 1) (h2 : t.isSt = false) (hr : rd1c lh t cs = some (d, ls, r)) {us : List Value} (hv : AVRs P hp ψ w (Mu M hp ψ) cs us)
    {ls' : List Nat} (hs : ∀ l ∈ ls, l ∈ ls') : ∃ c vs, us = c ++ vs ∧ Rd P t w (Mu M (kill hp ls') ψ) d c ∧ AVRs P hp ψ w (Mu M hp ψ) r vs := by
  cases cs with
  | nil => simp [rd1c] at hr
  | cons a r' =>
    obtain ⟨v, vs, rfl, q1, q2⟩ := hv
    obtain ⟨x, hx, e⟩ := Option.map_eq_some_iff.1 hr
    simp only [Prod.mk.injEq] at e
    obtain ⟨rfl, rfl, rfl⟩ := e
    exact ⟨[v], vs, rfl, ((rd1_ok h hlh hx q1 hs).one h2 h1).1, q2⟩
theorem rdc_ok (h : HOK P B M hp ψ w) (hlh : ∀ l ob, lh l = some ob → hp l = some ob) {ls' : List Nat} : ∀ {t : Ty} {cs r : List AV} {d : t.den} {ls : List Nat}, rdc lh t cs = some (d, ls, r) → ∀ {us : List Value}, AVRs P hp ψ w (Mu M hp ψ) cs us →
    (∀ l ∈ ls, l ∈ ls') → ∃ c vs, us = c ++ vs ∧ Rd P t w (Mu M (kill hp ls') ψ) d c ∧ AVRs P hp ψ w (Mu M hp ψ) r vs
  | .st t, _, _, _, _, hr, _, hv, hs => rdc_ok h hlh (t := t) hr hv hs
  | .nil, _, _, _, _, hr, us, hv, hs => by
    simp only [rdc, Option.some.injEq, Prod.mk.injEq] at hr
    obtain ⟨_, rfl, rfl⟩ := hr
    exact ⟨[], us, rfl, rfl, hv⟩
  | .cons a b, cs, r, d, ls, hr, us, hv, hs => by
    unfold rdc at hr
    split at hr
    · rename_i x l1 r1 h1
      split at hr
      · rename_i y l2 r2 h2
        simp only [Option.some.injEq, Prod.mk.injEq] at hr
        obtain ⟨rfl, rfl, rfl⟩ := hr
        obtain ⟨c1, vs, rfl, q1, q2⟩ := rdc_ok h hlh (t := a) h1 hv (fun l hl => hs l (List.mem_append_left _ hl))
        obtain ⟨c2, vs', rfl, q3, q4⟩ := rdc_ok h hlh (t := b) h2 q2 (fun l hl => hs l (List.mem_append_right _ hl))
        exact ⟨c1 ++ c2, vs', by simp, ⟨c1, c2, rfl, q1, q3⟩, q4⟩
      · cases hr
    · cases hr
  | .bool, _, _, _, _, hr, _, hv, hs => rd1c_ok h hlh rfl rfl hr hv hs
  | .int _, _, _, _, _, hr, _, hv, hs => rd1c_ok h hlh rfl rfl hr hv hs
  | .str, _, _, _, _, hr, _, hv, hs => rd1c_ok h hlh rfl rfl hr hv hs
  | .sl _, _, _, _, _, hr, _, hv, hs => rd1c_ok h hlh rfl rfl hr hv hs
  | .ptr _, _, _, _, _, hr, _, hv, hs => rd1c_ok h hlh rfl rfl hr hv hs
  | .fn _ _, _, _, _, _, hr, _, hv, hs => rd1c_ok h hlh rfl rfl hr hv hs
  | .fn2 _ _ _, _, _, _, _, hr, _, hv, hs => rd1c_ok h hlh rfl rfl hr hv hs
  | .mp _ _, _, _, _, _, hr, _, hv, hs => rd1c_ok h hlh rfl rfl hr hv hs
theorem rd_ok (h : HOK P B M hp ψ w) (hlh : ∀ l ob, lh l = some ob → hp l = some ob) {t : Ty} {a : AV} {d : t.den} {ls : List Nat} (hr : rd lh t a = some (d, ls)) {v : Value} (hv : AVR P hp ψ w (Mu M hp ψ) a v)
    {ls' : List Nat} (hs : ∀ l ∈ ls, l ∈ ls') : RdV P t w (Mu M (kill hp ls') ψ) d v := by
  unfold rd at hr
  split at hr
  · rename_i cs
    unfold rdAgg at hr
    split at hr
    · split at hr
      · rename_i t d' l' h1
        simp only [Option.some.injEq, Prod.mk.injEq] at hr
        obtain ⟨rfl, rfl⟩ := hr
        obtain ⟨us, rfl, q, _⟩ := hv
        obtain ⟨c, vs, e, q1, q2⟩ := rdc_ok h hlh h1 q hs
        obtain rfl : vs = [] := q2
        refine ⟨by unfold Ty.shape Ty.isSt; simp, ?_⟩
        rw [List.append_nil] at e
        show Rd P _ w _ _ us.toList
        rw [e]; exact q1
      · cases hr
    · cases hr
  · rename_i l
    split at hr
    · rename_i T cs hl
      unfold rdPtr at hr
      split at hr
      · split at hr
        · rename_i t d' ls0 h1
          simp only [Option.some.injEq, Prod.mk.injEq] at hr
          obtain ⟨rfl, rfl⟩ := hr
          have hl' := hlh _ _ hl
          obtain ⟨b, cells, e, hB, hg, q, _⟩ := h.ob l _ hl'
          obtain ⟨b', e', rfl⟩ := hv _ hl'
          rw [e] at e'
          simp only [Value.pointer.injEq, Option.some.injEq, Addr.mk.injEq, and_true] at e'
          subst e'
          obtain ⟨c, vs, e1, q1, q2⟩ := rdc_ok h hlh h1 q (ls' := ls') (fun l hl => hs l (List.mem_cons_of_mem _ hl))
          obtain rfl : vs = [] := q2
          rw [List.append_nil] at e1
          refine ⟨shape_ptr, b, 0, c, rfl, lt_of_block hg, ?_, ?_, q1⟩
          · rintro (q | ⟨l', ob', q1, q2⟩)
            · exact h.md l _ b hl' (by rw [e]; rfl) q
            · unfold kill at q1
              split at q1
              · cases q1
              · rename_i hni
                exact hni (by rw [h.dj l' l ob' _ b q1 hl' q2 (by rw [e]; rfl)]; exact hs l (by simp))
          · intro j v hj
            rw [Nat.zero_add]
            unfold World.cell?
            simp only [hg]
            rw [← e1] at hj
            simpa using hj
        · cases hr
      · cases hr
    · cases hr
  · exact rd1_ok h hlh hr hv hs
end
end T
end Go.Proofs.Ytbbpiihbhdagnaa
