/- Typed abstract walk, part 1: types of data, and what it means that cells of memory read as data. -/
import Derived.Test.YtbbpiihbhdagnaaRows
import Derived.WalkKit
import Derived.ProofKit
import Derived.Below
import Derived.Laws.NewBlocks
import Derived.Lib.Hide
import Derived.MapKept
namespace Go.Proofs.Ytbbpiihbhdagnaa
set_option linter.unusedVariables false
set_option linter.unusedSimpArgs false
open Go.RowKit
namespace T

/-- The types of data. A struct is 'st' over a chain of 'cons'. -/
inductive Ty
  | bool | int (k : IntKind) | str | sl (t : Ty) | ptr (t : Ty) | st (t : Ty) | nil | cons (a b : Ty) | fn (a r : Ty) | fn2 (a b r : Ty) | mp (k : IntKind) (t : Ty)
  deriving DecidableEq

@[reducible] def Ty.den : Ty → Type
  | .bool => Bool
  | .int _ => Int
  | .str => ByteArray
  | .sl t => List t.den
  | .ptr t => t.den
  | .st t => t.den
  | .nil => Unit
  | .cons a b => a.den × b.den
  | .fn a r => a.den → r.den
  | .fn2 a b r => a.den → b.den → r.den
  | .mp _ t => List (Int × t.den)
/-- How many cells. -/
def Ty.size : Ty → Nat
  | .st t => t.size
  | .nil => 0
  | .cons a b => a.size + b.size
  | _ => 1
def Ty.isSt : Ty → Bool
  | .st _ => true
  | _ => false
/-- A value of the shape that a type has: a struct is an aggregate, anything else one cell. -/
def Ty.shape (t : Ty) (v : Value) : Prop := (∃ cs, v = .agg cs) ↔ t.isSt = true

def CellsAt (w : World) (b off : Nat) (cs : List Value) : Prop := ∀ j v, cs[j]? = some v → w.cell? ⟨b, off + j, none⟩ = some v
def RowsBy {α : Type} (R : α → List Value → Prop) : List α → List Value → Prop
  | [], cs => cs = []
  | x :: xs, cs => ∃ c r, cs = c ++ r ∧ R x c ∧ RowsBy R xs r

/-- The world w1 comes later: nothing outside M has turned; M1 is what may turn from then on. -/
structure Later (w : World) (M : Nat → Prop) (w1 : World) (M1 : Nat → Prop) : Prop where
  size : w.heap.size ≤ w1.heap.size
  same : ∀ b, b < w.heap.size → ¬ M b → w1.heap[b]? = w.heap[b]?
  sub : ∀ b, b < w.heap.size → M1 b → M b
  bound : ∀ b, M1 b → b < w1.heap.size

variable (P : Program)
/-- A function that is entered when it is called. -/
def funcOk (f : FuncId) : Bool := match P.funcs[f]? with
  | some fn => fn.name != "runtime.NumGoroutine" && fn.body.isSome
  | none => false
/-- The elements of maps: numbers, truth values, strings. -/
def mval : (t : Ty) → t.den → Value
  | .bool, d => .bool d
  | .int k, d => .int k d
  | .str, d => .string d
  | _, _ => undef
def mOk : (t : Ty) → t.den → Prop
  | .bool, _ => True
  | .int k, d => k.min ≤ d ∧ d ≤ k.max
  | .str, d => d.size ≤ maxLen
  | _, _ => False
/-- Cells read as data; nothing of it lies in a block of M. -/
def Rd : (t : Ty) → World → (Nat → Prop) → t.den → List Value → Prop
  | .bool, _, _, d, cs => cs = [.bool d]
  | .int k, _, _, d, cs => cs = [.int k d] ∧ k.min ≤ d ∧ d ≤ k.max
  | .str, _, _, d, cs => cs = [.string d] ∧ d.size ≤ maxLen
  | .sl t, w, M, d, cs => ∃ A n c, cs = [.slice A n c] ∧ d.length = n ∧ n ≤ c ∧ c ≤ maxLen ∧
      (n = 0 ∨ ∃ b off cc, A = some ⟨b, off, none⟩ ∧ b < w.heap.size ∧ ¬ M b ∧ CellsAt w b off cc ∧ RowsBy (fun x c => Rd t w M x c) d cc)
  | .ptr t, w, M, d, cs => ∃ b off cc, cs = [.pointer (some ⟨b, off, none⟩)] ∧ b < w.heap.size ∧ ¬ M b ∧ CellsAt w b off cc ∧ Rd t w M d cc
  | .st t, w, M, d, cs => Rd t w M d cs
  | .nil, _, _, _, cs => cs = []
  | .cons a b, w, M, d, cs => ∃ c1 c2, cs = c1 ++ c2 ∧ Rd a w M d.1 c1 ∧ Rd b w M d.2 c2
  | .fn a r, w, M, F, cs => ∃ f cap, cs = [.func (.func f) #[] cap] ∧ funcOk P f = true ∧ ∀ w1 M1, Later w M w1 M1 → ∀ x v, a.shape v → Rd a w1 M1 x v.cells.toList →
      Calls P f (#[v] ++ cap) w1 fun e w2 => ∃ u, e = .returned u ∧ r.shape u ∧ Rd r w2 M1 (F x) u.cells.toList ∧ Below w1.heap.size w1 w2
  | .fn2 a b r, w, M, F, cs => ∃ f cap, cs = [.func (.func f) #[] cap] ∧ funcOk P f = true ∧ ∀ w1 M1, Later w M w1 M1 → ∀ x v y u, a.shape v → Rd a w1 M1 x v.cells.toList → b.shape u → Rd b w1 M1 y u.cells.toList →
      Calls P f (#[v, u] ++ cap) w1 fun e w2 => ∃ u, e = .returned u ∧ r.shape u ∧ Rd r w2 M1 (F x y) u.cells.toList ∧ Below w1.heap.size w1 w2
  | .mp k t, w, M, d, cs => ∃ b es clock, cs = [.map (some b)] ∧ b < w.heap.size ∧ ¬ M b ∧ w.heap[b]? = some (.map es clock) ∧ Go.MapKept.Stamped es clock ∧ es.toList.map (fun x => (x.key, x.val)) = d.map (fun p => (Value.int k p.1, mval t p.2)) ∧ ∀ p ∈ d, (k.min ≤ p.1 ∧ p.1 ≤ k.max) ∧ mOk t p.2

section
variable {P}
theorem CellsAt.later {w w1 : World} {b off : Nat} {cs : List Value} (h : CellsAt w b off cs) (e : w1.heap[b]? = w.heap[b]?) : CellsAt w1 b off cs := fun j v hj => by
  rw [World.cell?_of_block (w := w) (a := ⟨b, off + j, none⟩) e]; exact h j v hj
theorem CellsAt.left {w : World} {b off : Nat} {c1 c2 : List Value} (h : CellsAt w b off (c1 ++ c2)) : CellsAt w b off c1 := fun j v hj =>
  h j v (by rw [List.getElem?_append_left (List.getElem?_eq_some_iff.1 hj).1]; exact hj)
theorem CellsAt.right {w : World} {b off : Nat} {c1 c2 : List Value} (h : CellsAt w b off (c1 ++ c2)) : CellsAt w b (off + c1.length) c2 := fun j v hj => by
  have := h (c1.length + j) v (by rw [List.getElem?_append_right (by omega)]; simpa using hj)
  rwa [Nat.add_assoc]
theorem CellsAt.append {w : World} {b off : Nat} {c1 c2 : List Value} (h : CellsAt w b off c1) (h' : CellsAt w b (off + c1.length) c2) : CellsAt w b off (c1 ++ c2) := fun j v hj => by
  by_cases c : j < c1.length
  · exact h j v (by rwa [List.getElem?_append_left c] at hj)
  · have := h' (j - c1.length) v (by rwa [List.getElem?_append_right (by omega)] at hj)
    rwa [show off + c1.length + (j - c1.length) = off + j by omega] at this
theorem RowsBy.mono {α : Type} {R R' : α → List Value → Prop} : ∀ {xs : List α} {cs : List Value}, RowsBy R xs cs → (∀ x ∈ xs, ∀ c, R x c → R' x c) → RowsBy R' xs cs
  | [], _, h, _ => h
  | x :: xs, _, ⟨c, r, e, h1, h2⟩, hm => ⟨c, r, e, hm x (by simp) c h1, h2.mono fun y hy => hm y (by simp [hy])⟩
theorem RowsBy.append {α : Type} {R : α → List Value → Prop} : ∀ {xs ys : List α} {c1 c2 : List Value}, RowsBy R xs c1 → RowsBy R ys c2 → RowsBy R (xs ++ ys) (c1 ++ c2)
  | [], _, _, _, h, h' => by obtain rfl : _ = [] := h; exact h'
  | x :: xs, _, _, _, ⟨c, r, e, h1, h2⟩, h' => ⟨c, r ++ _, by rw [e, List.append_assoc], h1, h2.append h'⟩
theorem RowsBy.split {α : Type} {R : α → List Value → Prop} : ∀ {xs ys : List α} {cs : List Value}, RowsBy R (xs ++ ys) cs → ∃ c1 c2, cs = c1 ++ c2 ∧ RowsBy R xs c1 ∧ RowsBy R ys c2
  | [], _, cs, h => ⟨[], cs, rfl, rfl, h⟩
  | x :: xs, _, _, ⟨c, r, e, h1, h2⟩ => by
    obtain ⟨c1, c2, e', h3, h4⟩ := RowsBy.split h2
    exact ⟨c ++ c1, c2, by rw [e, e', List.append_assoc], ⟨c, c1, rfl, h1, h3⟩, h4⟩
theorem RowsBy.len {α : Type} {R : α → List Value → Prop} {n : Nat} (hR : ∀ x c, R x c → c.length = n) : ∀ {xs : List α} {cs : List Value}, RowsBy R xs cs → cs.length = xs.length * n
  | [], _, h => by obtain rfl : _ = [] := h; simp
  | x :: xs, _, ⟨c, r, e, h1, h2⟩ => by
    rw [e, List.length_append, hR _ _ h1, RowsBy.len hR h2, List.length_cons, Nat.add_mul]; omega
theorem RowsBy.at {α : Type} {R : α → List Value → Prop} {xs : List α} {cs : List Value} (h : RowsBy R xs cs) {i : Nat} (hi : i < xs.length) :
    ∃ c1 c c2, cs = c1 ++ c ++ c2 ∧ RowsBy R (xs.take i) c1 ∧ R xs[i] c ∧ RowsBy R (xs.drop (i + 1)) c2 := by
  have e : xs = xs.take i ++ xs[i] :: xs.drop (i + 1) := by simp
  rw [e] at h
  obtain ⟨c1, c2, rfl, h1, c, r, rfl, h2, h3⟩ := h.split
  refine ⟨c1, c, r, by simp, h1, ?_, h3⟩
  simpa using h2

theorem Later.refl {w : World} {M : Nat → Prop} (h : ∀ b, M b → b < w.heap.size) : Later w M w M := ⟨Nat.le_refl _, fun _ _ _ => rfl, fun _ _ h => h, h⟩
theorem Later.trans {w w1 w2 : World} {M M1 M2 : Nat → Prop} (h : Later w M w1 M1) (k : Later w1 M1 w2 M2) : Later w M w2 M2 :=
  ⟨Nat.le_trans h.size k.size, fun b hb hm => by
    rw [k.same b (Nat.lt_of_lt_of_le hb h.size) (fun q => hm (h.sub b hb q)), h.same b hb hm], fun b hb q => h.sub b hb (k.sub b (Nat.lt_of_lt_of_le hb h.size) q), k.bound⟩
theorem Later.below {w w1 : World} {M : Nat → Prop} (h : Below w.heap.size w w1) (hM : ∀ b, M b → b < w.heap.size) : Later w M w1 M :=
  ⟨h.size, fun b hb _ => h.block b hb, fun _ _ q => q, fun b q => Nat.lt_of_lt_of_le (hM b q) h.size⟩

theorem Rd.later {w w1 : World} {M M1 : Nat → Prop} (h : Later w M w1 M1) : ∀ {t : Ty} {d : t.den} {cs : List Value}, Rd P t w M d cs → Rd P t w1 M1 d cs
  | .bool, _, _, q => q
  | .int _, _, _, q => q
  | .str, _, _, q => q
  | .nil, _, _, q => q
  | .st t, d, _, q => Rd.later (t := t) h q
  | .cons a b, d, _, ⟨c1, c2, e, q1, q2⟩ => ⟨c1, c2, e, Rd.later (t := a) h q1, Rd.later (t := b) h q2⟩
  | .sl t, d, _, ⟨A, n, c, e, h1, h2, h3, h4⟩ => by
    refine ⟨A, n, c, e, h1, h2, h3, ?_⟩
    rcases h4 with h4 | ⟨b, off, cc, e', hb, hm, hc, hr⟩
    · exact .inl h4
    · exact .inr ⟨b, off, cc, e', Nat.lt_of_lt_of_le hb h.size, fun q => hm (h.sub b hb q), hc.later (h.same b hb hm), hr.mono fun x _ c q => Rd.later (t := t) h q⟩
  | .ptr t, d, _, ⟨b, off, cc, e', hb, hm, hc, hr⟩ => ⟨b, off, cc, e', Nat.lt_of_lt_of_le hb h.size, fun q => hm (h.sub b hb q), hc.later (h.same b hb hm), Rd.later (t := t) h hr⟩
  | .fn a r, d, _, ⟨f, cap, e, q0, q⟩ => ⟨f, cap, e, q0, fun w2 M2 k => q w2 M2 (h.trans k)⟩
  | .fn2 a b r, d, _, ⟨f, cap, e, q0, q⟩ => ⟨f, cap, e, q0, fun w2 M2 k => q w2 M2 (h.trans k)⟩
  | .mp _ _, d, _, ⟨b, es, clock, e, hb, hm, hg, q⟩ => ⟨b, es, clock, e, Nat.lt_of_lt_of_le hb h.size, fun q => hm (h.sub b hb q), by rw [h.same b hb hm]; exact hg, q⟩

theorem Rd.len {w : World} {M : Nat → Prop} : ∀ {t : Ty} {d : t.den} {cs : List Value}, Rd P t w M d cs → cs.length = t.size
  | .bool, _, _, q => by rw [show _ = _ from q]; rfl
  | .int _, _, _, q => by rw [q.1]; rfl
  | .str, _, _, q => by rw [q.1]; rfl
  | .nil, _, _, q => by rw [show _ = _ from q]; rfl
  | .st t, d, _, q => Rd.len (t := t) q
  | .cons a b, d, _, ⟨c1, c2, e, q1, q2⟩ => by rw [e, List.length_append, Rd.len (t := a) q1, Rd.len (t := b) q2]; rfl
  | .sl t, d, _, ⟨A, n, c, e, _⟩ => by rw [e]; rfl
  | .ptr t, d, _, ⟨b, off, cc, e', _⟩ => by rw [e']; rfl
  | .fn a r, d, _, ⟨f, cap, e, q⟩ => by rw [e]; rfl
  | .fn2 a b r, d, _, ⟨f, cap, e, q⟩ => by rw [e]; rfl
  | .mp _ _, d, _, ⟨b, es, clock, e, q⟩ => by rw [e]; rfl
/-- No cell is an aggregate. -/
theorem Rd.one {w : World} {M : Nat → Prop} : ∀ {t : Ty} {d : t.den} {cs : List Value}, Rd P t w M d cs → ∀ u ∈ cs, u.oneCell' = true
  | .bool, _, _, q => by rw [show _ = _ from q]; intro u hu; simp at hu; subst hu; rfl
  | .int _, _, _, q => by rw [q.1]; intro u hu; simp at hu; subst hu; rfl
  | .str, _, _, q => by rw [q.1]; intro u hu; simp at hu; subst hu; rfl
  | .nil, _, _, q => by rw [show _ = _ from q]; intro u hu; simp at hu
  | .st t, d, _, q => Rd.one (t := t) q
  | .cons a b, d, _, ⟨c1, c2, e, q1, q2⟩ => by
    rw [e]; intro u hu
    rcases List.mem_append.1 hu with hu | hu
    · exact Rd.one (t := a) q1 u hu
    · exact Rd.one (t := b) q2 u hu
  | .sl t, d, _, ⟨A, n, c, e, _⟩ => by rw [e]; intro u hu; simp at hu; subst hu; rfl
  | .ptr t, d, _, ⟨b, off, cc, e', _⟩ => by rw [e']; intro u hu; simp at hu; subst hu; rfl
  | .fn a r, d, _, ⟨f, cap, e, q⟩ => by rw [e]; intro u hu; simp at hu; subst hu; rfl
  | .fn2 a b r, d, _, ⟨f, cap, e, q⟩ => by rw [e]; intro u hu; simp at hu; subst hu; rfl
  | .mp _ _, d, _, ⟨b, es, clock, e, q⟩ => by rw [e]; intro u hu; simp at hu; subst hu; rfl
end
/-- A value reads as data. -/
def RdV (t : Ty) (w : World) (M : Nat → Prop) (d : t.den) (v : Value) : Prop := t.shape v ∧ Rd P t w M d v.cells.toList
variable {P}
theorem RdV.later {w w1 : World} {M M1 : Nat → Prop} (h : Later w M w1 M1) {t : Ty} {d : t.den} {v : Value} (q : RdV P t w M d v) : RdV P t w1 M1 d v := ⟨q.1, q.2.later h⟩
end T
end Go.Proofs.Ytbbpiihbhdagnaa
