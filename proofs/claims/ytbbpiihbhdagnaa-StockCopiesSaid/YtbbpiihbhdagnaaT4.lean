/- Typed abstract walk, part 4: operations, what each does to abstract values, and the forms in which memory turns. -/
import Derived.Test.YtbbpiihbhdagnaaT3
import Derived.Deep.MidRow
import Derived.Laws.CopyRow
import Derived.Laws.MakeOwn
import Derived.Laws.Slices
import Derived.OwnWalk
import Derived.OrdersIn
import Derived.ControlIn
namespace Go.Proofs.Ytbbpiihbhdagnaa
set_option linter.unusedVariables false
set_option linter.unusedSimpArgs false
open Go.RowKit
namespace T

/-- A contract: what a function returns for which data. The arguments' types are a chain of 'cons' that ends in 'nil'; so are the results' of a function with many. -/
structure Ent where
  f : FuncId
  a : Ty
  r : Ty
  many : Bool
  fresh : Option TypeId
  pre : a.den → Prop
  F : a.den → r.den
section
variable (P : Program)
def RdL : (t : Ty) → World → (Nat → Prop) → t.den → List Value → Prop
  | .nil, _, _, _, vs => vs = []
  | .cons a b, w, M, d, vs => ∃ v r, vs = v :: r ∧ RdV P a w M d.1 v ∧ RdL b w M d.2 r
  | _, _, _, _, _ => False
def Fresh (B : Nat) (w : World) (M : Nat → Prop) (e : TypeId) : (t : Ty) → t.den → Value → Prop
  | .sl t, d, v => ∃ cells, w.ownsRow B e t.size v d.length cells ∧ RowsBy (fun x c => Rd P t w (fun b => M b ∨ blk v = some b) x c) d cells
  | _, _, _ => False
def RdRes (many : Bool) (t : Ty) (w : World) (M : Nat → Prop) (d : t.den) (v : Value) : Prop :=
  if many then ∃ us, v = .tuple us ∧ RdL P t w M d us.toList else RdV P t w M d v
/-- What a contract says. -/
def Con0 (e : Ent) : Prop := funcOk P e.f = true ∧ ∀ x, e.pre x → ∀ w M vs, (∀ b, M b → b < w.heap.size) → RdL P e.a w M x vs →
  Calls P e.f vs.toArray w fun en w' => ∃ v, en = .returned v ∧ Below w.heap.size w w' ∧ (match e.fresh with
    | some t => Fresh P w.heap.size w' M t e.r (e.F x) v
    | none => RdRes P e.many e.r w' M (e.F x) v)
/-- A function that may write into the first slice that it is handed (a row of the caller's own, of data without references): what the row holds that it hands back. Such a contract has both 'many' and 'fresh'. -/
def OwnCon : Ent → Prop
  | ⟨f, .cons (.sl t) ar, .sl t', _, some T, pre, F⟩ => funcOk P f = true ∧ ∀ (x : List t.den) (y : ar.den), pre (x, y) → ∀ w M v us cells, (∀ b, M b → b < w.heap.size) → (∀ b, blk v = some b → M b) → w.ownsRow 0 T t.size v x.length cells → RowsBy (fun x c => Rd P t w M x c) x cells → RdL P ar w M y us → (∀ u ∈ us, ∀ b, blk u = some b → blk v ≠ some b ∧ ∃ cur e, w.heap[b]? = some (.cells cur e (0, 0))) →
      Calls P f (v :: us).toArray w fun en w' => ∃ v' cells', en = .returned v' ∧ w'.ownsRow 0 T t'.size v' (F (x, y)).length cells' ∧ RowsBy (fun x c => Rd P t' w M x c) (F (x, y)) cells' ∧ w.grownBy w' v.ownBlock ∧ (blk v' = blk v ∨ ∃ g, blk v' = some g ∧ w.heap.size ≤ g)
  | _ => False
def Ent.own (e : Ent) : Bool := e.many && e.fresh.isSome
def Con (e : Ent) : Prop := if e.own then OwnCon P e else Con0 P e
variable {P} in
theorem Con.is {e : Ent} (h : Con P e) (ho : e.own = false) : Con0 P e := by unfold Con at h; rwa [ho, if_neg (by simp)] at h
variable {P} in
theorem Con.to {e : Ent} (h : Con0 P e) (ho : e.own = false) : Con P e := by unfold Con; rwa [ho, if_neg (by simp)]
end

/-- What an operation does. -/
structure Eff where
  v : AV
  kill : List Nat
  put : Option (Nat × OB)
def putHp (hp : Hp) (l : Nat) (ob : OB) : Hp := fun x => if x = l then some ob else hp x
def Eff.app (e : Eff) (hp : Hp) : Hp := match e.put with
  | none => T.kill hp e.kill
  | some (l, ob) => putHp (T.kill hp e.kill) l ob
def OpPost (P : Program) (B : Nat) (M : Nat → Prop) (hp : Hp) (ψ : Nat → Value) (w : World) (fr : Nat) (e : Eff) (v : Value) (w' : World) : Prop :=
  ∃ ψ', HOK P B M (e.app hp) ψ' w' ∧ Stay B M w w' ∧ AVR P (e.app hp) ψ' w' (Mu M (e.app hp) ψ') e.v v ∧
    ∀ av u, fr ∉ av.locs → AVR P hp ψ w (Mu M hp ψ) av u → AVR P (e.app hp) ψ' w' (Mu M (e.app hp) ψ') av u
/-- The frames that a walk is in: a function's own, or a round of a range over a function. -/
def Fen (r : Option Nat) : Fence := { Fence.wide with round := r }
theorem fen_none : Fen none = Fence.wide := rfl
theorem fen_calls {r : Option Nat} {n : Nat} {P : Program} {f : FuncId} {vs : Array Value} {w : World} {R : Ending → World → Prop} (h : Calls P f vs w R) : CallsIn (Fen r) n P f vs w R := callsIn_wide.2 h
theorem execOp_defer {P : Program} {ρ : Operand → Value} {o : Oper} {w w' : World} {x : Next} (h : (execOp ρ o).run P w = .ok x w') (hx : (∃ v, x = .value v) ∨ x = .skip ∨ ∃ f vs, x = .enter f vs) : ∀ c, o.op ≠ .defer c := by
  intro c hc
  unfold execOp at h
  rw [hc] at h
  simp only [Sem.run_bind] at h
  cases hr : (resolve ρ c o.type).run P w with
  | ok d w1 =>
    rw [hr] at h
    simp at h
    rcases hx with ⟨v, rfl⟩ | rfl | ⟨f, vs, rfl⟩ <;> cases h.1
  | halt _ _ => rw [hr] at h; simp at h
/-- An operation does what R says, whatever comes behind it. -/
def Does (P : Program) (o : Oper) (a : Act) (w : World) (R : Value → World → Prop) : Prop := ∀ (r : Option Nat) (K : Act → World → Prop) (Q : Exit → Act → World → Prop), (∀ v w', R v w' → K (a.put o.dst v) w') → o.wpIn (Fen r) 0 P a w K Q
/-- An operation of a region, wanted or not. -/
def Up (r : Option Nat) (P : Program) (ops : Array Oper) (o : Oper) (a : Act) (w : World) (K : Act → World → Prop) (Q : Exit → Act → World → Prop) : Prop :=
  if Region.wanted o (yielded ops a.tmps) then o.wpIn (Fen r) 0 P a w K Q else K (a.put o.dst undef) w
theorem up_ops {r : Option Nat} {P : Program} {ops : Array Oper} {o : Oper} {a : Act} {w : World} {K : Act → World → Prop} {Q : Exit → Act → World → Prop} (h : Up r P ops o a w K Q) :
    if Region.wanted o (yielded ops a.tmps) then o.wpIn (Fen r) 0 P a w K Q else (∀ f, o.about P w a.eval = some f → (Fen r).fn f) ∧ K (a.put o.dst undef) w := by
  unfold Up at h
  split
  · rename_i c; rwa [if_pos c] at h
  · rename_i c; rw [if_neg c] at h; exact ⟨fun _ _ => trivial, h⟩

section
variable {P : Program} {B : Nat} {M : Nat → Prop} {hp : Hp} {ψ : Nat → Value} {w w' : World} {fr : Nat}
theorem does_run {o : Oper} {a : Act} {v : Value} {R : Value → World → Prop} (h : (execOp a.eval o).run P w = .ok (.value v) w') (hR : R v w') : Does P o a w R := fun r K Q hK => by
  refine ⟨fun _ _ => trivial, ?_⟩; rw [Oper.semAt_eq _ _ _ (execOp_defer h (.inl ⟨_, rfl⟩)), h]; exact hK v w' hR
theorem does_skip {o : Oper} {a : Act} {R : Value → World → Prop} (h : (execOp a.eval o).run P w = .ok .skip w') (hR : R undef w') : Does P o a w R := fun r K Q hK => by
  refine ⟨fun _ _ => trivial, ?_⟩; rw [Oper.semAt_eq _ _ _ (execOp_defer h (.inr (.inl rfl))), h]; exact hK undef w' hR
theorem does_call {o : Oper} {a : Act} {f : FuncId} {vs : Array Value} {R : Value → World → Prop} (h : (execOp a.eval o).run P w = .ok (.enter f vs) w) (hc : Calls P f vs w fun e w' => ∃ v, e = .returned v ∧ R v w') : Does P o a w R := fun r K Q hK => by
  refine ⟨fun _ _ => trivial, ?_⟩; rw [Oper.semAt_eq _ _ _ (execOp_defer h (.inr (.inr ⟨_, _, rfl⟩))), h]
  refine ⟨fun q => (by cases q), fen_calls (hc.mono ?_)⟩
  rintro e w' ⟨v, rfl, hR⟩
  exact hK v w' hR
theorem kill_nil : T.kill hp [] = hp := by funext l; simp [T.kill]
theorem app_none {av : AV} {ks : List Nat} : (Eff.mk av ks none).app hp = T.kill hp ks := rfl
theorem app_nil {av : AV} : (Eff.mk av [] none).app hp = hp := kill_nil
theorem app_put {av : AV} {ks : List Nat} {l : Nat} {ob : OB} : (Eff.mk av ks (some (l, ob))).app hp = putHp (T.kill hp ks) l ob := rfl

/-- What an operation finds. -/
structure Ctx (P : Program) (B : Nat) (M : Nat → Prop) (hp : Hp) (ψ : Nat → Value) (w : World) (fr : Nat) : Prop where
  hok : HOK P B M hp ψ w
  new : hp fr = none
  obs : ∀ l ob, hp l = some ob → fr ∉ ob.locs
theorem Ctx.turn (c : Ctx P B M hp ψ w fr) {tc : List Nat} {ψ' : Nat → Value} {e : Eff} {v : Value} (t : Turn P B M hp ψ w tc fr (e.app hp) ψ' w')
    (hT : ∀ l ob, (l ∈ tc ∨ l = fr) → e.app hp l = some ob → OBR P B (e.app hp) ψ' w' (Mu M (e.app hp) ψ') l ob)
    (hv : AVR P (e.app hp) ψ' w' (Mu M (e.app hp) ψ') e.v v) : OpPost P B M hp ψ w fr e v w' :=
  ⟨ψ', t.hok c.hok c.obs hT, t.stay c.hok, hv, fun _ _ h q => t.av c.hok h q⟩
/-- Nothing turns. -/
theorem Ctx.quiet (c : Ctx P B M hp ψ w fr) {av : AV} {v : Value} (hb : Below w.heap.size w w') (hv : AVR P hp ψ w' (Mu M hp ψ) av v) : OpPost P B M hp ψ w fr ⟨av, [], none⟩ v w' := by
  refine Ctx.turn (ψ' := ψ) (tc := []) c ?_ ?_ ?_
  · rw [app_nil]; exact Turn.quiet hb c.new
  · rw [app_nil]; intro l ob h1 h2
    rcases h1 with h1 | rfl
    · cases h1
    · rw [c.new] at h2; cases h2
  · rw [app_nil]; exact hv
theorem Ctx.pure (c : Ctx P B M hp ψ w fr) {av : AV} {v : Value} (hv : AVR P hp ψ w (Mu M hp ψ) av v) : OpPost P B M hp ψ w fr ⟨av, [], none⟩ v w := c.quiet (Below.refl _ _) hv
theorem kill_some {ks : List Nat} {l : Nat} {ob : OB} (h : T.kill hp ks l = some ob) : l ∉ ks ∧ hp l = some ob := by
  unfold T.kill at h; split at h
  · cases h
  · rename_i q; exact ⟨q, h⟩
theorem kill_not {ks : List Nat} {l : Nat} (h : l ∉ ks) : T.kill hp ks l = hp l := by unfold T.kill; rw [if_neg h]
theorem like_refl (ob : OB) : ob.like ob := by cases ob <;> simp [OB.like]
/-- Blocks of the call's own are given away. -/
theorem Ctx.kills (c : Ctx P B M hp ψ w fr) {av : AV} {v : Value} {ks : List Nat} (hb : Below w.heap.size w w') (hv : AVR P (T.kill hp ks) ψ w' (Mu M (T.kill hp ks) ψ) av v) : OpPost P B M hp ψ w fr ⟨av, ks, none⟩ v w' := by
  refine Ctx.turn (ψ' := ψ) (tc := ks) c ?_ ?_ hv
  · rw [app_none]
    exact {
      os := hb.os, tape := hb.tape, output := hb.output, size := hb.size
      same := fun b h _ => hb.block b h
      psi := fun _ _ => rfl
      new := c.new
      rest := fun l h _ => kill_not h
      kind := fun l ob' _ h => ⟨ob', (kill_some h).2, like_refl _⟩
      lies := fun l ob b h1 h2 _ => by
        obtain ⟨q1, q2⟩ := kill_some h2
        rcases h1 with h1 | rfl
        · exact absurd h1 q1
        · rw [c.new] at q2; cases q2
      one := fun l l' ob ob' h1 _ h2 _ => by
        obtain ⟨q1, q2⟩ := kill_some h2
        rcases h1 with h1 | rfl
        · exact absurd h1 q1
        · rw [c.new] at q2; cases q2 }
  · rw [app_none]
    intro l ob h1 h2
    obtain ⟨q1, q2⟩ := kill_some h2
    rcases h1 with h1 | rfl
    · exact absurd h1 q1
    · rw [c.new] at q2; cases q2
def upd' (ψ : Nat → Value) (l : Nat) (v : Value) : Nat → Value := fun x => if x = l then v else ψ x
@[simp] theorem upd'_same (ψ : Nat → Value) (l : Nat) (v : Value) : upd' ψ l v l = v := by simp [upd']
theorem upd'_other (ψ : Nat → Value) {l x : Nat} (v : Value) (h : x ≠ l) : upd' ψ l v x = ψ x := by simp [upd', h]
@[simp] theorem putHp_same (hp : Hp) (l : Nat) (ob : OB) : putHp hp l ob l = some ob := by simp [putHp]
theorem putHp_other (hp : Hp) {l x : Nat} (ob : OB) (h : x ≠ l) : putHp hp l ob x = hp x := by simp [putHp, h]
/-- A new block gets a name; others are given away. What was given away may hold the new one (an append). -/
theorem Ctx.news (c : Ctx P B M hp ψ w fr) {av : AV} {v u : Value} {ks : List Nat} {ob : OB} (os : w'.os = w.os) (tape : w'.tape = w.tape) (output : w'.output = w.output) (size : w.heap.size ≤ w'.heap.size)
    (same : ∀ b, b < w.heap.size → (∀ l ∈ ks, ∀ ob, hp l = some ob → blk (ψ l) ≠ some b) → w'.heap[b]? = w.heap[b]?)
    (lies : ∀ b, blk u = some b → (w.heap.size ≤ b ∧ b < w'.heap.size) ∨ ∃ l0 ∈ ks, ∃ ob0, hp l0 = some ob0 ∧ blk (ψ l0) = some b)
    (hob : Later w (Mu M hp ψ) w' (Mu M (putHp (T.kill hp ks) fr ob) (upd' ψ fr u)) → OBR P B (putHp (T.kill hp ks) fr ob) (upd' ψ fr u) w' (Mu M (putHp (T.kill hp ks) fr ob) (upd' ψ fr u)) fr ob)
    (hv : Later w (Mu M hp ψ) w' (Mu M (putHp (T.kill hp ks) fr ob) (upd' ψ fr u)) → AVR P (putHp (T.kill hp ks) fr ob) (upd' ψ fr u) w' (Mu M (putHp (T.kill hp ks) fr ob) (upd' ψ fr u)) av v) : OpPost P B M hp ψ w fr ⟨av, ks, some (fr, ob)⟩ v w' := by
  have t : Turn P B M hp ψ w ks fr (putHp (T.kill hp ks) fr ob) (upd' ψ fr u) w' := {
      os := os, tape := tape, output := output, size := size
      same := same
      psi := fun l h => upd'_other ψ u h
      new := c.new
      rest := fun l h h' => by rw [putHp_other _ _ h', kill_not h]
      kind := fun l ob' hl h => ⟨ob', by rw [putHp_other _ _ hl] at h; exact (kill_some h).2, like_refl _⟩
      lies := fun l ob1 b h1 h2 h3 => by
        by_cases e : l = fr
        · subst e; rw [upd'_same] at h3; exact lies b h3
        · rw [putHp_other _ _ e] at h2
          exact absurd (h1.resolve_right e) (kill_some h2).1
      one := fun l l' ob ob' h1 h1' h2 h2' => by
        have key : ∀ x ob, (x ∈ ks ∨ x = fr) → putHp (T.kill hp ks) fr ob x = some ob → x = fr := fun x ob k1 k2 => by
          by_cases e : x = fr
          · exact e
          · rw [putHp_other _ _ e] at k2
            exact absurd (k1.resolve_right e) (kill_some k2).1
        have key' : ∀ x ob', (x ∈ ks ∨ x = fr) → putHp (T.kill hp ks) fr (‹OB›) x = some ob' → x = fr := fun x ob' k1 k2 => by
          by_cases e : x = fr
          · exact e
          · rw [putHp_other _ _ e] at k2
            exact absurd (k1.resolve_right e) (kill_some k2).1
        by_cases e : l = fr
        · by_cases e' : l' = fr
          · rw [e, e']
          · rw [putHp_other _ _ e'] at h2'
            exact absurd (h1'.resolve_right e') (kill_some h2').1
        · rw [putHp_other _ _ e] at h2
          exact absurd (h1.resolve_right e) (kill_some h2).1 }
  refine Ctx.turn (ψ' := upd' ψ fr u) (tc := ks) c (by rw [app_put]; exact t) ?_ (by rw [app_put]; exact hv (t.later c.hok))
  rw [app_put]
  intro l ob' h1 h2
  by_cases e : l = fr
  · subst e; rw [putHp_same] at h2; injection h2 with h2; subst h2; exact hob (t.later c.hok)
  · rw [putHp_other _ _ e] at h2
    exact absurd (h1.resolve_right e) (kill_some h2).1
/-- A new block. -/
theorem Ctx.fresh (c : Ctx P B M hp ψ w fr) {av : AV} {v u : Value} {ks : List Nat} {ob : OB} (hb : Below w.heap.size w w') (lies : ∀ b, blk u = some b → w.heap.size ≤ b ∧ b < w'.heap.size)
    (hob : Later w (Mu M hp ψ) w' (Mu M (putHp (T.kill hp ks) fr ob) (upd' ψ fr u)) → OBR P B (putHp (T.kill hp ks) fr ob) (upd' ψ fr u) w' (Mu M (putHp (T.kill hp ks) fr ob) (upd' ψ fr u)) fr ob)
    (hv : Later w (Mu M hp ψ) w' (Mu M (putHp (T.kill hp ks) fr ob) (upd' ψ fr u)) → AVR P (putHp (T.kill hp ks) fr ob) (upd' ψ fr u) w' (Mu M (putHp (T.kill hp ks) fr ob) (upd' ψ fr u)) av v) : OpPost P B M hp ψ w fr ⟨av, ks, some (fr, ob)⟩ v w' :=
  c.news hb.os hb.tape hb.output hb.size (fun b h _ => hb.block b h) (fun b h => .inl (lies b h)) hob hv
/-- An own block is written; others are given away. -/
theorem Ctx.write (c : Ctx P B M hp ψ w fr) {av : AV} {v : Value} {ks : List Nat} {l : Nat} {ob ob0 : OB} (hl : hp l = some ob0) (hlk : ob0.like ob) (hks : l ∉ ks) (os : w'.os = w.os) (tape : w'.tape = w.tape) (output : w'.output = w.output) (size : w.heap.size ≤ w'.heap.size)
    (same : ∀ b, b < w.heap.size → blk (ψ l) ≠ some b → w'.heap[b]? = w.heap[b]?)
    (hob : Later w (Mu M hp ψ) w' (Mu M (putHp (T.kill hp ks) l ob) ψ) → OBR P B (putHp (T.kill hp ks) l ob) ψ w' (Mu M (putHp (T.kill hp ks) l ob) ψ) l ob)
    (hv : Later w (Mu M hp ψ) w' (Mu M (putHp (T.kill hp ks) l ob) ψ) → AVR P (putHp (T.kill hp ks) l ob) ψ w' (Mu M (putHp (T.kill hp ks) l ob) ψ) av v) : OpPost P B M hp ψ w fr ⟨av, ks, some (l, ob)⟩ v w' := by
  have hlf : l ≠ fr := fun e => by rw [e, c.new] at hl; cases hl
  have t : Turn P B M hp ψ w (l :: ks) fr (putHp (T.kill hp ks) l ob) ψ w' := {
      os := os, tape := tape, output := output, size := size
      same := fun b h h' => same b h (h' l (by simp) ob0 hl)
      psi := fun _ _ => rfl
      new := c.new
      rest := fun x h h' => by
        simp only [List.mem_cons, not_or] at h
        rw [putHp_other _ _ h.1, kill_not h.2]
      kind := fun x ob' hx h => by
        by_cases e : x = l
        · subst e; rw [putHp_same] at h; injection h with h; subst h; exact ⟨ob0, hl, hlk⟩
        · rw [putHp_other _ _ e] at h; exact ⟨ob', (kill_some h).2, like_refl _⟩
      lies := fun x ob1 b h1 h2 h3 => by
        by_cases e : x = l
        · subst e; exact .inr ⟨x, by simp, ob0, hl, h3⟩
        · rw [putHp_other _ _ e] at h2
          obtain ⟨q1, q2⟩ := kill_some h2
          rcases h1 with h1 | rfl
          · rcases List.mem_cons.1 h1 with h1 | h1
            · exact absurd h1 e
            · exact absurd h1 q1
          · rw [c.new] at q2; cases q2
      one := fun x y ob1 ob2 h1 h1' h2 h2' => by
        have key : ∀ x ob1, (x ∈ l :: ks ∨ x = fr) → putHp (T.kill hp ks) l ob x = some ob1 → x = l := fun x ob1 h1 h2 => by
          by_cases e : x = l
          · exact e
          · rw [putHp_other _ _ e] at h2
            obtain ⟨q1, q2⟩ := kill_some h2
            rcases h1 with h1 | rfl
            · rcases List.mem_cons.1 h1 with h1 | h1
              · exact h1
              · exact absurd h1 q1
            · rw [c.new] at q2; cases q2
        rw [key x ob1 h1 h2, key y ob2 h1' h2'] }
  refine Ctx.turn (ψ' := ψ) (tc := l :: ks) c (by rw [app_put]; exact t) ?_ (by rw [app_put]; exact hv (t.later c.hok))
  rw [app_put]
  intro x ob' h1 h2
  by_cases e : x = l
  · subst e; rw [putHp_same] at h2; injection h2 with h2; subst h2; exact hob (t.later c.hok)
  · rw [putHp_other _ _ e] at h2
    obtain ⟨q1, q2⟩ := kill_some h2
    rcases h1 with h1 | rfl
    · rcases List.mem_cons.1 h1 with h1 | h1
      · exact absurd h1 e
      · exact absurd h1 q1
    · rw [c.new] at q2; cases q2
end
end T
end Go.Proofs.Ytbbpiihbhdagnaa
