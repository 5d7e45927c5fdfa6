/- Typed abstract walk, part 2: abstract values, the heap of a call's own blocks, and what stays when it turns. -/
import Derived.Test.YtbbpiihbhdagnaaT1
import Derived.MapKept
import Derived.Laws.IdiomRangeMap
import Derived.Laws.AppendOwn
import Derived.Laws.Slices
namespace Go.Proofs.Ytbbpiihbhdagnaa
set_option linter.unusedVariables false
set_option linter.unusedSimpArgs false
open Go.RowKit
namespace T

/-- What the walk knows of a value. -/
inductive AV
  | top
  | val (t : Ty) (d : t.den)
  | cst (v : Value)
  | agg (cs : List AV)
  | own (l : Nat)
  | ptr (l o : Nat)
  | eptr (l i o : Nat)
  | tup (vs : List AV)
  | clo (f : FuncId) (cap : List AV)
  | whn (c : Bool) (v : AV)
  | ub (p q : Prop)
  | frz (o : Obj)
  | bnd (f : FuncId) (vs : List AV)
  | yl (l : Nat) (ks : List Nat) (vs : List AV)
  | sub (l lo hi : Nat)
  | arr (l n : Nat)
/-- A block of the call's own: a variable, or the array of a slice. -/
inductive OB
  | box (T : TypeId) (cs : List AV)
  | row (e : TypeId) (t : Ty) (xs : List t.den)
  | mp (k : IntKind) (t : Ty) (xs : List (Int × t.den))
  | lp (busy : Bool) (r : Loop)
  | it (k : IntKind) (t : Ty) (left : List (Int × t.den)) (cur : Option (Int × t.den))

mutual
def AV.locs : AV → List Nat
  | .agg cs => AV.locsL cs
  | .own l => [l]
  | .ptr l _ => [l]
  | .eptr l _ _ => [l]
  | .tup vs => AV.locsL vs
  | .clo _ cap => AV.locsL cap
  | .bnd _ vs => AV.locsL vs
  | .yl l _ vs => l :: AV.locsL vs
  | .sub l _ _ => [l]
  | .arr l _ => [l]
  | .whn _ v => v.locs
  | _ => []
def AV.locsL : List AV → List Nat
  | [] => []
  | a :: r => a.locs ++ AV.locsL r
end
def OB.locs : OB → List Nat
  | .box _ cs => AV.locsL cs
  | .row .. => []
  | .mp .. => []
  | .lp .. => []
  | .it .. => []
def blk : Value → Option Nat
  | .pointer (some a) => some a.block
  | .slice (some a) _ _ => some a.block
  | .map (some b) => some b
  | _ => none
abbrev Hp := Nat → Option OB
/-- The blocks that may turn: the caller's, and the call's own. -/
def Mu (M : Nat → Prop) (hp : Hp) (ψ : Nat → Value) : Nat → Prop := fun b => M b ∨ ∃ l ob, hp l = some ob ∧ blk (ψ l) = some b
def OB.like : OB → OB → Prop
  | .box _ _, .box _ _ => True
  | .row _ t _, .row _ t' _ => t = t'
  | .mp k t _, .mp k' t' _ => k = k' ∧ t = t'
  | .lp _ r, .lp _ r' => r' = r
  | .it k t _ _, .it k' t' _ _ => k = k' ∧ t = t'
  | _, _ => False

variable (P : Program)
mutual
def AVR (hp : Hp) (ψ : Nat → Value) (w : World) (M : Nat → Prop) : AV → Value → Prop
  | .top, _ => True
  | .val t d, v => RdV P t w M d v
  | .cst u, v => v = u
  | .agg cs, v => ∃ us, v = .agg us ∧ AVRs hp ψ w M cs us.toList ∧ ∀ u ∈ us.toList, u.oneCell' = true
  | .own l, v => ∀ ob, hp l = some ob → v = ψ l
  | .ptr l o, v => ∀ ob, hp l = some ob → ∃ b, ψ l = .pointer (some ⟨b, 0, none⟩) ∧ v = .pointer (some ⟨b, o, none⟩)
  | .eptr l i o, v => ∀ e t xs, hp l = some (.row e t xs) → ∃ g n c, ψ l = .slice (some ⟨g, 0, none⟩) n c ∧ v = .pointer (some ⟨g, i * t.size + o, none⟩)
  | .tup vs, v => ∃ us, v = .tuple us ∧ AVRs hp ψ w M vs us.toList
  | .clo f cap, v => ∃ us, v = .func (.func f) #[] us ∧ AVRs hp ψ w M cap us.toList
  | .whn c a, v => (c = true → AVR hp ψ w M a v) ∧ (c = false → v = undef)
  | .ub p q, v => ∃ b, v = .bool b ∧ (b = true → p) ∧ (b = false → q)
  | .frz o, v => ∃ b, v = .pointer (some ⟨b, 0, none⟩) ∧ b < w.heap.size ∧ ¬ M b ∧ w.heap[b]? = some o
  | .sub l lo hi, v => ∀ e t xs, hp l = some (.row e t xs) → lo ≤ hi ∧ ∃ A n c, ψ l = .slice A n c ∧ hi ≤ n ∧ v = sliced A lo hi c t.size
  | .bnd f vs, v => ∃ us, v = .func (.func f) us #[] ∧ AVRs hp ψ w M vs us.toList
  | .arr l n, v => ∀ ob, hp l = some ob → ∃ b c, ψ l = .pointer (some ⟨b, 0, none⟩) ∧ v = .slice (some ⟨b, 0, none⟩) n c ∧ n ≤ c ∧ c ≤ maxLen
  | .yl l ks vs, v => ∃ T : Array Value, AVRs hp ψ w M vs (ks.map fun k => T.getD k undef) ∧ ∀ bs r, hp l = some (.lp bs r) → ∃ b, ψ l = .pointer (some ⟨b, 0, none⟩) ∧ v = .func (.yield b) #[] #[] ∧ r.tmps = T
def AVRs (hp : Hp) (ψ : Nat → Value) (w : World) (M : Nat → Prop) : List AV → List Value → Prop
  | [], us => us = []
  | a :: r, us => ∃ v vs, us = v :: vs ∧ AVR hp ψ w M a v ∧ AVRs hp ψ w M r vs
end
/-- A range over a map that nobody writes: what it has not handed out yet, and what it handed out last. -/
def ItAt (w : World) (M : Nat → Prop) (k : IntKind) (t : Ty) (b : Nat) (left : List (Int × t.den)) (cur : Option (Int × t.den)) : Prop :=
  ∃ bm since seen c0 es clock, w.heap[b]? = some (.mapIter (some bm) since seen c0) ∧ bm < w.heap.size ∧ ¬ M bm ∧ w.heap[bm]? = some (.map es clock) ∧ Go.MapKept.Stamped es clock ∧ (∀ x ∈ es.toList, x.born < since) ∧ since ≤ c0 ∧ since ≤ clock ∧
    (leftOf es seen).toList.map (fun x => (x.key, x.val)) = left.map (fun p => (Value.int k p.1, mval t p.2)) ∧ (∀ p ∈ left, (k.min ≤ p.1 ∧ p.1 ≤ k.max) ∧ mOk t p.2) ∧
    ∀ p, cur = some p → ((k.min ≤ p.1 ∧ p.1 ≤ k.max) ∧ mOk t p.2) ∧ ∃ (seen' : Array Nat) (e : MapEntry), seen = seen'.push e.born ∧ c0 = clock ∧ e ∈ es.toList ∧ e.key = .int k p.1 ∧ e.val = mval t p.2
theorem ItAt.later {w w1 : World} {M M1 : Nat → Prop} (h : Later w M w1 M1) {k : IntKind} {t : Ty} {b : Nat} {left : List (Int × t.den)} {cur : Option (Int × t.den)} (hb : w1.heap[b]? = w.heap[b]?) (q : ItAt w M k t b left cur) : ItAt w1 M1 k t b left cur := by
  obtain ⟨bm, since, seen, c0, es, clock, h1, h2, h3, h4, q⟩ := q
  exact ⟨bm, since, seen, c0, es, clock, by rw [hb]; exact h1, Nat.lt_of_lt_of_le h2 h.size, fun z => h3 (h.sub bm h2 z), by rw [h.same bm h2 h3]; exact h4, q⟩
/-- A loop's record, between the rounds or in one. -/
def Loop.at (busy : Bool) (r : Loop) : Loop := { r with state := if busy then .busy else .ready, pending := none }
/-- What an own block holds. -/
def OBR (B : Nat) (hp : Hp) (ψ : Nat → Value) (w : World) (M : Nat → Prop) (l : Nat) : OB → Prop
  | .box T cs => ∃ b cells, ψ l = .pointer (some ⟨b, 0, none⟩) ∧ B ≤ b ∧ w.heap[b]? = some (.cells cells T (0, 0)) ∧ AVRs P hp ψ w M cs cells.toList ∧ (∀ u ∈ cells.toList, u.oneCell' = true)
  | .row e t xs => ∃ cells, w.ownsRow B e t.size (ψ l) xs.length cells ∧ RowsBy (fun x c => Rd P t w M x c) xs cells
  | .mp k t xs => ∃ b es clock, ψ l = .map (some b) ∧ B ≤ b ∧ w.heap[b]? = some (.map es clock) ∧ Go.MapKept.Stamped es clock ∧ es.toList.map (fun x => (x.key, x.val)) = xs.map (fun p => (Value.int k p.1, mval t p.2)) ∧ ∀ p ∈ xs, (k.min ≤ p.1 ∧ p.1 ≤ k.max) ∧ mOk t p.2
  | .lp bs r => ∃ b, ψ l = .pointer (some ⟨b, 0, none⟩) ∧ B ≤ b ∧ w.heap[b]? = some (.loop (Loop.at bs r))
  | .it k t left cur => ∃ b, ψ l = .pointer (some ⟨b, 0, none⟩) ∧ B ≤ b ∧ ItAt w M k t b left cur
structure HOK (B : Nat) (M : Nat → Prop) (hp : Hp) (ψ : Nat → Value) (w : World) : Prop where
  ob : ∀ l ob, hp l = some ob → OBR P B hp ψ w (Mu M hp ψ) l ob
  dj : ∀ l l' ob ob' b, hp l = some ob → hp l' = some ob' → blk (ψ l) = some b → blk (ψ l') = some b → l = l'
  mb : ∀ b, M b → b < w.heap.size
  md : ∀ l ob b, hp l = some ob → blk (ψ l) = some b → ¬ M b
  bz : B ≤ w.heap.size

section
variable {P} {B : Nat} {M : Nat → Prop} {hp hp' : Hp} {ψ ψ' : Nat → Value} {w w' : World}
theorem ownsRow_blk {e : TypeId} {s : Nat} {v : Value} {n b : Nat} {xs : List Value} (h : w.ownsRow B e s v n xs) (hb : blk v = some b) : B ≤ b ∧ b < w.heap.size := by
  rcases h.2 with ⟨rfl, _⟩ | ⟨g, cap, cur, rfl, hB, hg, _⟩
  · simp [blk] at hb
  · simp only [blk, Option.some.injEq] at hb; subst hb
    exact ⟨hB, lt_of_block hg⟩
theorem OBR.bk {M' : Nat → Prop} {l : Nat} {o : OB} (h : OBR P B hp ψ w M' l o) {b : Nat} (hb : blk (ψ l) = some b) : B ≤ b ∧ b < w.heap.size := by
  cases o with
  | box T cs =>
    obtain ⟨b', cells, e, hB, hg, _⟩ := h
    rw [e] at hb
    simp only [blk, Option.some.injEq] at hb; subst hb
    exact ⟨hB, lt_of_block hg⟩
  | row e t xs =>
    obtain ⟨cells, h, _⟩ := h
    exact ownsRow_blk h hb
  | mp k t xs =>
    obtain ⟨b', es, clock, e, hB, hg, _⟩ := h
    rw [e] at hb
    simp only [blk, Option.some.injEq] at hb; subst hb
    exact ⟨hB, lt_of_block hg⟩
  | lp bs r =>
    obtain ⟨b', e, hB, hg⟩ := h
    rw [e] at hb
    simp only [blk, Option.some.injEq] at hb; subst hb
    exact ⟨hB, lt_of_block hg⟩
  | it k t left cur =>
    obtain ⟨b', e, hB, _, _, _, _, _, _, hg, _⟩ := h
    rw [e] at hb
    simp only [blk, Option.some.injEq] at hb; subst hb
    exact ⟨hB, lt_of_block hg⟩
theorem HOK.mu (h : HOK P B M hp ψ w) : ∀ b, Mu M hp ψ b → b < w.heap.size := by
  rintro b (q | ⟨l, ob, h1, h2⟩)
  · exact h.mb b q
  · exact ((h.ob l ob h1).bk h2).2

mutual
theorem AVR.later {Mw Mw' : Nat → Prop} {fr : Nat} (hl : Later w Mw w' Mw') (hψ : ∀ l, l ≠ fr → ψ' l = ψ l) (hk : ∀ l ob', l ≠ fr → hp' l = some ob' → ∃ ob, hp l = some ob ∧ ob.like ob') :
    ∀ {av : AV} {v : Value}, fr ∉ av.locs → AVR P hp ψ w Mw av v → AVR P hp' ψ' w' Mw' av v
  | .top, _, _, _ => trivial
  | .val t d, _, _, q => RdV.later hl q
  | .cst u, _, _, q => q
  | .agg cs, _, hf, ⟨us, e, q, q1⟩ => ⟨us, e, AVRs.later hl hψ hk (by simpa [AV.locs] using hf) q, q1⟩
  | .own l, _, hf, q => fun ob h => by
    simp only [AV.locs, List.mem_singleton] at hf
    obtain ⟨ob0, h0, _⟩ := hk l ob (Ne.symm hf) h
    rw [hψ l (Ne.symm hf)]; exact q ob0 h0
  | .ptr l o, _, hf, q => fun ob h => by
    simp only [AV.locs, List.mem_singleton] at hf
    obtain ⟨ob0, h0, _⟩ := hk l ob (Ne.symm hf) h
    rw [hψ l (Ne.symm hf)]; exact q ob0 h0
  | .eptr l i o, _, hf, q => fun e t xs h => by
    simp only [AV.locs, List.mem_singleton] at hf
    obtain ⟨ob0, h0, h1⟩ := hk l _ (Ne.symm hf) h
    rw [hψ l (Ne.symm hf)]
    cases ob0 with
    | box _ _ => exact h1.elim
    | mp _ _ _ => exact h1.elim
    | lp _ _ => exact h1.elim
    | it _ _ _ _ => exact h1.elim
    | row e' t' xs' => obtain rfl : t' = t := h1; exact q e' t' xs' h0
  | .arr l n, _, hf, q => fun ob h => by
    simp only [AV.locs, List.mem_singleton] at hf
    obtain ⟨ob0, h0, _⟩ := hk l ob (Ne.symm hf) h
    rw [hψ l (Ne.symm hf)]; exact q ob0 h0
  | .tup vs, _, hf, ⟨us, e, q⟩ => ⟨us, e, AVRs.later hl hψ hk (by simpa [AV.locs] using hf) q⟩
  | .clo f cap, _, hf, ⟨us, e, q⟩ => ⟨us, e, AVRs.later hl hψ hk (by simpa [AV.locs] using hf) q⟩
  | .ub _ _, _, _, q => q
  | .frz o, _, _, ⟨b, e, h1, h2, h3⟩ => ⟨b, e, Nat.lt_of_lt_of_le h1 hl.size, fun q => h2 (hl.sub b h1 q), by rw [hl.same b h1 h2]; exact h3⟩
  | .sub l lo hi, _, hf, q => fun e t xs h => by
    simp only [AV.locs, List.mem_singleton] at hf
    obtain ⟨ob0, h0, h1⟩ := hk l _ (Ne.symm hf) h
    rw [hψ l (Ne.symm hf)]
    cases ob0 with
    | box _ _ => exact h1.elim
    | mp _ _ _ => exact h1.elim
    | lp _ _ => exact h1.elim
    | it _ _ _ _ => exact h1.elim
    | row e' t' xs' => obtain rfl : t' = t := h1; exact q e' t' xs' h0
  | .bnd f vs, _, hf, ⟨us, e, q⟩ => ⟨us, e, AVRs.later hl hψ hk (by simpa [AV.locs] using hf) q⟩
  | .yl l ks vs, _, hf, ⟨T, q, q2⟩ => by
    simp only [AV.locs, List.mem_cons, not_or] at hf
    refine ⟨T, AVRs.later hl hψ hk hf.2 q, fun bs r h => ?_⟩
    obtain ⟨ob0, h0, h1⟩ := hk l _ (Ne.symm hf.1) h
    rw [hψ l (Ne.symm hf.1)]
    cases ob0 with
    | box _ _ => exact h1.elim
    | mp _ _ _ => exact h1.elim
    | row _ _ _ => exact h1.elim
    | it _ _ _ _ => exact h1.elim
    | lp bs' r' =>
      obtain rfl : r = r' := h1
      exact q2 bs' r h0
  | .whn c a, _, hf, q => ⟨fun h => AVR.later hl hψ hk (by simpa [AV.locs] using hf) (q.1 h), q.2⟩
theorem AVRs.later {Mw Mw' : Nat → Prop} {fr : Nat} (hl : Later w Mw w' Mw') (hψ : ∀ l, l ≠ fr → ψ' l = ψ l) (hk : ∀ l ob', l ≠ fr → hp' l = some ob' → ∃ ob, hp l = some ob ∧ ob.like ob') :
    ∀ {r : List AV} {us : List Value}, fr ∉ AV.locsL r → AVRs P hp ψ w Mw r us → AVRs P hp' ψ' w' Mw' r us
  | [], _, _, q => q
  | a :: r, _, hf, ⟨v, vs, e, q1, q2⟩ => by
    simp only [AV.locsL, List.mem_append, not_or] at hf
    exact ⟨v, vs, e, AVR.later hl hψ hk hf.1 q1, AVRs.later hl hψ hk hf.2 q2⟩
end

/-- What an operation turns: 'T' are the blocks that it may touch, 'fr' is the name of a new one. -/
structure Turn (P : Program) (B : Nat) (M : Nat → Prop) (hp : Hp) (ψ : Nat → Value) (w : World) (tc : List Nat) (fr : Nat) (hp' : Hp) (ψ' : Nat → Value) (w' : World) : Prop where
  os : w'.os = w.os
  tape : w'.tape = w.tape
  output : w'.output = w.output
  size : w.heap.size ≤ w'.heap.size
  same : ∀ b, b < w.heap.size → (∀ l ∈ tc, ∀ ob, hp l = some ob → blk (ψ l) ≠ some b) → w'.heap[b]? = w.heap[b]?
  psi : ∀ l, l ≠ fr → ψ' l = ψ l
  new : hp fr = none
  rest : ∀ l, l ∉ tc → l ≠ fr → hp' l = hp l
  kind : ∀ l ob', l ≠ fr → hp' l = some ob' → ∃ ob, hp l = some ob ∧ ob.like ob'
  lies : ∀ l ob b, (l ∈ tc ∨ l = fr) → hp' l = some ob → blk (ψ' l) = some b → (w.heap.size ≤ b ∧ b < w'.heap.size) ∨ ∃ l0 ∈ tc, ∃ ob0, hp l0 = some ob0 ∧ blk (ψ l0) = some b
  one : ∀ l l' ob ob', (l ∈ tc ∨ l = fr) → (l' ∈ tc ∨ l' = fr) → hp' l = some ob → hp' l' = some ob' → l = l'

theorem Turn.later {tc : List Nat} {fr : Nat} (h : HOK P B M hp ψ w) (t : Turn P B M hp ψ w tc fr hp' ψ' w') : Later w (Mu M hp ψ) w' (Mu M hp' ψ') := by
  have key : ∀ l ob b, hp' l = some ob → blk (ψ' l) = some b → (w.heap.size ≤ b ∧ b < w'.heap.size) ∨ Mu M hp ψ b := fun l ob b h1 h2 => by
    by_cases c : l ∈ tc ∨ l = fr
    · rcases t.lies l ob b c h1 h2 with q | ⟨l0, _, ob0, q1, q2⟩
      · exact .inl q
      · exact .inr (.inr ⟨l0, ob0, q1, q2⟩)
    · rw [not_or] at c
      rw [t.rest l c.1 c.2] at h1
      rw [t.psi l c.2] at h2
      exact .inr (.inr ⟨l, ob, h1, h2⟩)
  refine ⟨t.size, fun b hb hm => t.same b hb fun l _ ob h1 h2 => hm (.inr ⟨l, ob, h1, h2⟩), fun b hb q => ?_, fun b q => ?_⟩
  · rcases q with q | ⟨l, ob, h1, h2⟩
    · exact .inl q
    · rcases key l ob b h1 h2 with q | q
      · omega
      · exact q
  · rcases q with q | ⟨l, ob, h1, h2⟩
    · exact Nat.lt_of_lt_of_le (h.mb b q) t.size
    · rcases key l ob b h1 h2 with q | q
      · exact q.2
      · exact Nat.lt_of_lt_of_le (h.mu b q) t.size
theorem Turn.av {tc : List Nat} {fr : Nat} (h : HOK P B M hp ψ w) (t : Turn P B M hp ψ w tc fr hp' ψ' w') {av : AV} {v : Value} (hf : fr ∉ av.locs) (q : AVR P hp ψ w (Mu M hp ψ) av v) :
    AVR P hp' ψ' w' (Mu M hp' ψ') av v := AVR.later (t.later h) t.psi t.kind hf q
theorem Turn.avs {tc : List Nat} {fr : Nat} (h : HOK P B M hp ψ w) (t : Turn P B M hp ψ w tc fr hp' ψ' w') {r : List AV} {us : List Value} (hf : fr ∉ AV.locsL r) (q : AVRs P hp ψ w (Mu M hp ψ) r us) :
    AVRs P hp' ψ' w' (Mu M hp' ψ') r us := AVRs.later (t.later h) t.psi t.kind hf q
theorem ownsRow_same {e : TypeId} {s : Nat} {v : Value} {n : Nat} {xs : List Value} (h : w.ownsRow B e s v n xs) (q : ∀ b, blk v = some b → w'.heap[b]? = w.heap[b]?) : w'.ownsRow B e s v n xs := by
  obtain ⟨h1, h2⟩ := h
  refine ⟨h1, ?_⟩
  rcases h2 with h2 | ⟨g, cap, cur, e, hB, hg, r⟩
  · exact .inl h2
  · exact .inr ⟨g, cap, cur, e, hB, by rw [q g (by rw [e]; rfl)]; exact hg, r⟩
/-- The blocks that were not touched hold what they held; the one that was touched must be shown. -/
theorem Turn.hok {tc : List Nat} {fr : Nat} (h : HOK P B M hp ψ w) (t : Turn P B M hp ψ w tc fr hp' ψ' w') (hm : ∀ l ob, hp l = some ob → fr ∉ ob.locs)
    (hT : ∀ l ob, (l ∈ tc ∨ l = fr) → hp' l = some ob → OBR P B hp' ψ' w' (Mu M hp' ψ') l ob) : HOK P B M hp' ψ' w' := by
  refine ⟨fun l ob hl => ?_, fun l l' ob ob' b h1 h2 h3 h4 => ?_, fun b q => Nat.lt_of_lt_of_le (h.mb b q) t.size, fun l ob b h1 h2 q => ?_, Nat.le_trans h.bz t.size⟩
  rotate_right
  · by_cases c : l ∈ tc ∨ l = fr
    · rcases t.lies l ob b c h1 h2 with q1 | ⟨l0, _, ob0, q1, q2⟩
      · have := h.mb b q; omega
      · exact h.md l0 ob0 b q1 q2 q
    · rw [not_or] at c
      rw [t.rest l c.1 c.2] at h1
      rw [t.psi l c.2] at h2
      exact h.md l ob b h1 h2 q
  · by_cases c : l ∈ tc ∨ l = fr
    · exact hT l ob c hl
    · rw [not_or] at c
      have hl0 := hl
      rw [t.rest l c.1 c.2] at hl0
      have h0 := h.ob l ob hl0
      have hs : ∀ b, blk (ψ l) = some b → w'.heap[b]? = w.heap[b]? := fun b hb => t.same b (h0.bk hb).2 fun l1 h1 ob1 h2 h3 => c.1 (by rw [h.dj l l1 ob ob1 b hl0 h2 hb h3]; exact h1)
      cases ob with
      | box T cs =>
        obtain ⟨b, cells, e, hB, hg, q, q1⟩ := h0
        refine ⟨b, cells, by rw [t.psi l c.2]; exact e, hB, by rw [hs b (by rw [e]; rfl)]; exact hg, t.avs h (hm l _ hl0) q, q1⟩
      | row e ty xs =>
        obtain ⟨cells, h1, h2⟩ := h0
        refine ⟨cells, ?_, h2.mono fun x _ c q => q.later (t.later h)⟩
        rw [t.psi l c.2]
        exact ownsRow_same h1 hs
      | mp k ty xs =>
        obtain ⟨b, es, clock, e, hB, hg, q⟩ := h0
        exact ⟨b, es, clock, by rw [t.psi l c.2]; exact e, hB, by rw [hs b (by rw [e]; rfl)]; exact hg, q⟩
      | lp bs r =>
        obtain ⟨b, e, hB, hg⟩ := h0
        exact ⟨b, by rw [t.psi l c.2]; exact e, hB, by rw [hs b (by rw [e]; rfl)]; exact hg⟩
      | it k ty left cur =>
        obtain ⟨b, e, hB, hg⟩ := h0
        exact ⟨b, by rw [t.psi l c.2]; exact e, hB, hg.later (t.later h) (hs b (by rw [e]; rfl))⟩
  · by_cases c : l ∈ tc ∨ l = fr
    · by_cases c' : l' ∈ tc ∨ l' = fr
      · exact t.one l l' ob ob' c c' h1 h2
      · exfalso
        rw [not_or] at c'
        rw [t.rest l' c'.1 c'.2] at h2
        rw [t.psi l' c'.2] at h4
        have := ((h.ob l' ob' h2).bk h4).2
        rcases t.lies l ob b c h1 h3 with q | ⟨l0, q0, ob0, q1, q2⟩
        · omega
        · exact c'.1 (by rw [h.dj l' l0 ob' ob0 b h2 q1 h4 q2]; exact q0)
    · rw [not_or] at c
      rw [t.rest l c.1 c.2] at h1
      rw [t.psi l c.2] at h3
      by_cases c' : l' ∈ tc ∨ l' = fr
      · exfalso
        have := ((h.ob l ob h1).bk h3).2
        rcases t.lies l' ob' b c' h2 h4 with q | ⟨l0, q0, ob0, q1, q2⟩
        · omega
        · exact c.1 (by rw [h.dj l l0 ob ob0 b h1 q1 h3 q2]; exact q0)
      · rw [not_or] at c'
        rw [t.rest l' c'.1 c'.2] at h2
        rw [t.psi l' c'.2] at h4
        exact h.dj l l' ob ob' b h1 h2 h3 h4
theorem Turn.below {tc : List Nat} {fr : Nat} (h : HOK P B M hp ψ w) (t : Turn P B M hp ψ w tc fr hp' ψ' w') : Below B w w' :=
  ⟨t.os, t.tape, t.output, t.size, fun b hb => t.same b (Nat.lt_of_lt_of_le hb h.bz) fun l _ ob h1 h2 => by
    have := ((h.ob l ob h1).bk h2).1; omega⟩
/-- The run's frame: what lies below B stays, and what is not the call's own. -/
structure Stay (B : Nat) (M : Nat → Prop) (w w' : World) : Prop where
  below : Below B w w'
  stay : ∀ b, M b → b < w.heap.size → w'.heap[b]? = w.heap[b]?
theorem Stay.refl {B : Nat} {M : Nat → Prop} {w : World} : Stay B M w w := ⟨Below.refl _ _, fun _ _ _ => rfl⟩
theorem Stay.trans {B : Nat} {M : Nat → Prop} {a b c : World} (h : Stay B M a b) (k : Stay B M b c) : Stay B M a c := ⟨h.below.trans k.below, fun x hx hlt => (k.stay x hx (Nat.lt_of_lt_of_le hlt h.below.size)).trans (h.stay x hx hlt)⟩
theorem Stay.fewer {B : Nat} {M M' : Nat → Prop} {a b : World} (h : Stay B M a b) (k : ∀ x, M' x → M x) : Stay B M' a b := ⟨h.below, fun x hx => h.stay x (k x hx)⟩
theorem Stay.drew {B : Nat} {M : Nat → Prop} {a w : World} (h : Stay B M a w) : Stay B M a w.drew := ⟨h.below.drew, h.stay⟩
theorem Stay.of {B : Nat} {M : Nat → Prop} {w w' : World} (h : Below w.heap.size w w') (hB : B ≤ w.heap.size) : Stay B M w w' := ⟨h.mono hB, fun b _ hb => h.block b hb⟩
theorem Turn.stay {tc : List Nat} {fr : Nat} (h : HOK P B M hp ψ w) (t : Turn P B M hp ψ w tc fr hp' ψ' w') : Stay B M w w' :=
  ⟨t.below h, fun b hb hlt => t.same b hlt fun l _ ob h1 h2 => h.md l ob b h1 h2 hb⟩
/-- Nothing of the call's own turns: new blocks alone, that nobody names. -/
theorem Turn.quiet (hb : Below w.heap.size w w') {fr : Nat} (hn : hp fr = none) : Turn P B M hp ψ w [] fr hp ψ w' where
  os := hb.os
  tape := hb.tape
  output := hb.output
  size := hb.size
  same := fun b h _ => hb.block b h
  psi := fun _ _ => rfl
  new := hn
  rest := fun _ _ _ => rfl
  kind := fun l ob' _ h => ⟨ob', h, by cases ob' <;> simp [OB.like]⟩
  lies := by
    intro l ob b c h1 _
    rcases c with c | rfl
    · cases c
    · rw [hn] at h1; cases h1
  one := by
    intro l l' ob ob' c c' h1 _
    rcases c with c | rfl
    · cases c
    · rw [hn] at h1; cases h1
end
end T
end Go.Proofs.Ytbbpiihbhdagnaa
