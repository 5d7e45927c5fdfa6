/- Typed abstract walk, part 13: guarded operations, and one step of a region. -/
import Derived.Test.YtbbpiihbhdagnaaT12
namespace Go.Proofs.Ytbbpiihbhdagnaa
set_option linter.unusedVariables false
set_option linter.unusedSimpArgs false
open Go.RowKit
namespace T

/-- An operation of a region: the slot that it writes, its operands, its guard (the guarding operation, its slot, what is wanted), and all operations that come before it in every order. -/
structure XO where
  dst : Option Nat
  op : XOp
  args : List XA
  guard : Option (Nat × Nat × Bool)
  ast : List Nat
def strip : AV → Prop × AV
  | .whn g v => (g = true, v)
  | v => (True, v)
def stripL : List AV → Prop × List AV
  | [] => (True, [])
  | a :: r => ((strip a).1 ∧ (stripL r).1, (strip a).2 :: (stripL r).2)
def boolOf : AV → Option (Prop × Bool)
  | .val .bool b => some (True, b)
  | .whn g (.val .bool b) => some (g = true, b)
  | .cst _ => some (False, false)
  | _ => none
def pickx : List AV → Option (Prop × Eff)
  | [c, a, b] => match boolOf c, boolOf a, boolOf b with
    | some (pc, cv), some (pa, da), some (pb, db) => some (pc ∧ (cv = true → pa) ∧ (cv = false → pb), pur (.val .bool (bif cv then da else db)))
    | _, _, _ => none
  | _ => none
def XOp.isPick : XOp → Bool
  | .pick => true
  | _ => false
def opg (C : List Ent) (lh : Hp) (fr : Nat) (x : XOp) (args : List AV) : Option (Prop × Eff) :=
  if x.isPick then pickx args else (opx C lh fr x (stripL args).2).map fun r => ((stripL args).1 ∧ r.1, r.2)
def gcond (want : Bool) : AV → Option Bool
  | .val .bool b => some (b == want)
  | .whn c (.val .bool b) => some (c && (b == want))
  | _ => none
def gop (C : List Ent) (lh : Hp) (fr : Nat) (g : Option (AV × Bool)) (x : XOp) (args : List AV) : Option (Prop × Eff) :=
  match g with
  | none => opg C lh fr x args
  | some (av, want) => match gcond want av with
    | none => none
    | some c => match opg C lh fr x args with
      | some (p, e) => if e.put.isNone && e.kill.isEmpty then some (c = true → p, pur (.whn c e.v)) else (bif c then some (p, e) else some (True, pur (.cst undef)))
      | none => bif c then none else some (True, pur (.cst undef))

section
variable (P : Program)
def guardChk (ops : Array Oper) : Option (Nat × Bool) → Option (Nat × Nat × Bool) → Bool
  | none, none => true
  | some (j, b), some (j', t, b') => j == j' && b == b' && (ops[j]?).bind (·.dst) == some t
  | _, _ => false
def xoChk (ops : Array Oper) (o : Oper) (x : XO) : Bool := o.dst == x.dst && guardChk ops o.guard x.guard && opChk P o.op x.op x.args
end
section
variable {P : Program} {B : Nat} {M : Nat → Prop} {hp lh : Hp} {ψ : Nat → Value} {w w' : World} {fr : Nat} {C : List Ent} {o : Oper} {a : Act}
theorem strip_ok {hp : Hp} {M' : Nat → Prop} {x : AV} {v : Value} (h : (strip x).1) (q : AVR P hp ψ w M' x v) : AVR P hp ψ w M' (strip x).2 v := by
  cases x <;> first | exact q | exact q.1 h
theorem stripL_ok {hp : Hp} {M' : Nat → Prop} : ∀ {xs : List AV} {vs : List Value}, (stripL xs).1 → AVRs P hp ψ w M' xs vs → AVRs P hp ψ w M' (stripL xs).2 vs
  | [], _, _, q => q
  | x :: xs, _, h, ⟨v, r, e, q1, q2⟩ => ⟨v, r, e, strip_ok h.1 q1, stripL_ok h.2 q2⟩
theorem strip_locs {x : AV} : (strip x).2.locs = x.locs := by cases x <;> rfl
theorem stripL_locs : ∀ {xs : List AV}, AV.locsL (stripL xs).2 = AV.locsL xs
  | [] => rfl
  | x :: xs => by simp [stripL, AV.locsL, strip_locs, stripL_locs]
theorem boolOf_ok {hp : Hp} {M' : Nat → Prop} {x : AV} {v : Value} {p : Prop} {b : Bool} (h : boolOf x = some (p, b)) (hp' : p) (q : AVR P hp ψ w M' x v) : v = .bool b := by
  unfold boolOf at h
  split at h
  · simp only [Option.some.injEq, Prod.mk.injEq] at h
    obtain ⟨_, rfl⟩ := h
    exact avr_bool q
  · simp only [Option.some.injEq, Prod.mk.injEq] at h
    obtain ⟨rfl, rfl⟩ := h
    exact avr_bool (q.1 hp')
  · simp only [Option.some.injEq, Prod.mk.injEq] at h
    obtain ⟨rfl, _⟩ := h
    exact hp'.elim
  · cases h
theorem opg_ok (hC : ∀ e ∈ C, Con P e) (hlh : ∀ l ob, lh l = some ob → hp l = some ob) {x : XOp} {args : List XA} {avs : List AV} {p : Prop} {eff : Eff} (hchk : opChk P o.op x args = true) (hv : AVRs P hp ψ w (Mu M hp ψ) avs (args.map fun z => a.eval z.opnd))
    (hf : fr ∉ AV.locsL avs) (h : opg C lh fr x avs = some (p, eff)) (hp' : p) (c : Ctx P B M hp ψ w fr) : Does P o a w (OpPost P B M hp ψ w fr eff) := by
  unfold opg at h
  split at h
  · rename_i hx
    cases x <;> simp [XOp.isPick] at hx
    cases ho : o.op <;> rw [ho] at hchk <;> (try (simp [opChk] at hchk; done))
    rename_i cc X Y
    unfold pickx at h
    split at h <;> (try (cases h; done))
    rename_i _ c0 a0 b0
    split at h <;> (try (cases h; done))
    rename_i pc cv pa da pb db hc ha hb
    simp only [Option.some.injEq, Prod.mk.injEq] at h
    obtain ⟨rfl, rfl⟩ := h
    cases args with
    | nil => simp [opChk] at hchk
    | cons z0 args =>
    cases args with
    | nil => simp [opChk] at hchk
    | cons z1 args =>
    cases args with
    | nil => simp [opChk] at hchk
    | cons z2 args =>
    cases args with
    | cons _ _ => simp [opChk] at hchk
    | nil =>
    simp only [opChk, Bool.and_eq_true] at hchk
    obtain ⟨⟨h1, h2⟩, h3⟩ := hchk
    simp only [List.map_cons, List.map_nil] at hv
    obtain ⟨_, _, e, q1, _, _, e', q2, _, _, e'', q3, _⟩ := hv
    simp only [List.cons.injEq] at e e' e''
    obtain ⟨rfl, rfl⟩ := e
    simp only [List.cons.injEq] at e'
    obtain ⟨rfl, rfl⟩ := e'
    simp only [List.cons.injEq] at e''
    obtain ⟨rfl, rfl⟩ := e''
    rw [← (opOk_eq h1).1] at q1
    rw [← (opOk_eq h2).1] at q2
    rw [← (opOk_eq h3).1] at q3
    have ec := boolOf_ok hc hp'.1 q1
    cases cv with
    | true =>
      have ea := boolOf_ok ha (hp'.2.1 rfl) q2
      exact does_run (v := .bool da) (w' := w) (by unfold execOp; simp [ho, ec, ea, asBool]) (c.pure bool_avr)
    | false =>
      have ea := boolOf_ok hb (hp'.2.2 rfl) q3
      exact does_run (v := .bool db) (w' := w) (by unfold execOp; simp [ho, ec, ea, asBool]) (c.pure bool_avr)
  · rename_i hx
    obtain ⟨r, hr, e⟩ := Option.map_eq_some_iff.1 h
    simp only [Prod.mk.injEq] at e
    obtain ⟨rfl, rfl⟩ := e
    exact opx_ok hC hlh hchk (stripL_ok hp'.1 hv) (by rw [stripL_locs]; exact hf) (by rintro rfl; simp [XOp.isPick] at hx) hr hp'.2 c
/-- One operation of a region, wanted or not. -/
theorem gop_ok {ro : Option Nat} (hC : ∀ e ∈ C, Con P e) (hlh : ∀ l ob, lh l = some ob → hp l = some ob) {ops : Array Oper} {x : XO} {avs : List AV} {g : Option (AV × Bool)} {p : Prop} {eff : Eff} (hchk : xoChk P ops o x = true) (hv : AVRs P hp ψ w (Mu M hp ψ) avs (x.args.map fun z => a.eval z.opnd))
    (hf : fr ∉ AV.locsL avs) (hg : match x.guard with
      | none => g = none
      | some (_, t, b) => ∃ av, g = some (av, b) ∧ AVR P hp ψ w (Mu M hp ψ) av (a.tmps.getD t undef) ∧ t < a.tmps.size)
    (h : gop C lh fr g x.op avs = some (p, eff)) (hp' : p) (c : Ctx P B M hp ψ w fr) {K : Act → World → Prop} {Q : Exit → Act → World → Prop} (hK : ∀ v w', OpPost P B M hp ψ w fr eff v w' → K (a.put o.dst v) w') :
    Up ro P ops o a w K Q := by
  unfold Up
  unfold xoChk at hchk
  simp only [Bool.and_eq_true] at hchk
  obtain ⟨⟨_, hgc⟩, hop⟩ := hchk
  cases hxg : x.guard with
  | none =>
    rw [hxg] at hgc hg
    cases hog : o.guard with
    | some _ => rw [hog] at hgc; simp [guardChk] at hgc
    | none =>
      have hw : Region.wanted o (yielded ops a.tmps) = true := by simp [Region.wanted, hog]
      rw [if_pos hw]
      simp only at hg
      subst hg
      exact opg_ok hC hlh hop hv hf h hp' c ro K Q hK
  | some jtb =>
    obtain ⟨j, t, b⟩ := jtb
    rw [hxg] at hgc hg
    obtain ⟨av, rfl, hav, hlt⟩ := hg
    cases hog : o.guard with
    | none => rw [hog] at hgc; simp [guardChk] at hgc
    | some jb =>
      obtain ⟨j', b'⟩ := jb
      rw [hog] at hgc
      simp only [guardChk, Bool.and_eq_true, beq_iff_eq] at hgc
      obtain ⟨⟨rfl, rfl⟩, hdst⟩ := hgc
      -- what the guard says
      have hwant : ∀ cnd, gcond b' av = some cnd → Region.wanted o (yielded ops a.tmps) = cnd := by
        intro cnd hcnd
        have hy : yielded ops a.tmps j' = match a.tmps.getD t undef with | .bool b => some b | _ => none := by
          unfold yielded
          rw [hdst]
          simp only [Option.bind_some]
          rw [Array.getElem?_eq_getElem hlt]
          simp only [Array.getD_eq_getD_getElem?, Array.getElem?_eq_getElem hlt, Option.getD_some]
          cases a.tmps[t] <;> rfl
        unfold Region.wanted
        rw [hog]
        simp only
        rw [hy]
        unfold gcond at hcnd
        split at hcnd
        · injection hcnd with hcnd; subst hcnd
          rw [avr_bool hav]
          rfl
        · rename_i cc bb
          injection hcnd with hcnd; subst hcnd
          cases cc with
          | true => rw [avr_bool (hav.1 rfl)]; simp
          | false => rw [hav.2 rfl]; rfl
        · cases hcnd
      unfold gop at h
      simp only at h
      split at h
      · cases h
      · rename_i cnd hcnd
        rw [hwant cnd hcnd]
        split at h
        · rename_i p1 e1 hop1
          split at h
          · rename_i hpure
            simp only [Bool.and_eq_true, Option.isNone_iff_eq_none, List.isEmpty_iff] at hpure
            simp only [Option.some.injEq, Prod.mk.injEq] at h
            obtain ⟨rfl, rfl⟩ := h
            obtain ⟨v1, k1, pt1⟩ := e1
            simp only at hpure
            obtain ⟨rfl, rfl⟩ := hpure
            cases cnd with
            | true =>
              rw [if_pos rfl]
              refine opg_ok hC hlh hop hv hf hop1 (hp' rfl) c ro K Q fun v w' hpost => hK v w' ?_
              obtain ⟨ψ', q1, q2, q3, q4⟩ := hpost
              exact ⟨ψ', q1, q2, ⟨fun _ => q3, fun h => by cases h⟩, q4⟩
            | false =>
              rw [if_neg (by simp)]
              exact hK undef w (c.pure ⟨fun h => (by cases h), fun _ => rfl⟩)
          · cases cnd with
            | true =>
              simp only [cond_true, Option.some.injEq, Prod.mk.injEq] at h
              obtain ⟨rfl, rfl⟩ := h
              rw [if_pos rfl]
              exact opg_ok hC hlh hop hv hf hop1 hp' c ro K Q hK
            | false =>
              simp only [cond_false, Option.some.injEq, Prod.mk.injEq] at h
              obtain ⟨_, rfl⟩ := h
              rw [if_neg (by simp)]
              exact hK undef w (c.pure rfl)
        · cases cnd with
          | true => cases h
          | false =>
            simp only [cond_false, Option.some.injEq, Prod.mk.injEq] at h
            obtain ⟨_, rfl⟩ := h
            rw [if_neg (by simp)]
            exact hK undef w (c.pure rfl)

/-- dm: may the frame have marks of its own? ms: the marks of the frames that it was called from. -/
structure Fix where
  w : World
  vs : List Value
  dm : Bool
  ms : List Deferred
/-- Marks of ranges over functions that are done: their blocks hold no call. -/
def Marks (P : Program) (B : Nat) (hp : Hp) (ψ : Nat → Value) (w : World) (M : Nat → Prop) (ds : List Deferred) : Prop :=
  (∀ d ∈ ds, ∃ b, d = { target := .collected b, args := #[] } ∧ B ≤ b ∧ AVR P hp ψ w M (.frz (.deferred (some []))) (.pointer (some ⟨b, 0, none⟩))) ∧ ds.Pairwise fun x y => x.target ≠ y.target
theorem Marks.map {P : Program} {B : Nat} {hp hp' : Hp} {ψ ψ' : Nat → Value} {w w' : World} {M M' : Nat → Prop} {ds : List Deferred} (m : Marks P B hp ψ w M ds) (h : ∀ u, AVR P hp ψ w M (.frz (.deferred (some []))) u → AVR P hp' ψ' w' M' (.frz (.deferred (some []))) u) : Marks P B hp' ψ' w' M' ds :=
  ⟨fun d hd => let ⟨b, e, hB, q⟩ := m.1 d hd; ⟨b, e, hB, h _ q⟩, m.2⟩
theorem Marks.nil {P : Program} {B : Nat} {hp : Hp} {ψ : Nat → Value} {w : World} {M : Nat → Prop} : Marks P B hp ψ w M [] := ⟨fun _ hd => absurd hd List.not_mem_nil, List.Pairwise.nil⟩
/-- A slot's value; behind the call's own slots lie those of the call that it was called from. -/
def sval (f : Fix) (n : Nat) (a : Act) (t : Nat) : Value := if t < n then a.tmps.getD t undef else f.vs.getD (t - n) undef
structure SimF (P : Program) (B : Nat) (M : Nat → Prop) (tm : Nat → AV) (n : Nat) (hp : Hp) (A : Nat → Prop) (ψ : Nat → Value) (w0 : Fix) (a : Act) (w : World) : Prop where
  hok : HOK P B M hp ψ w
  av : ∀ t, AVR P hp ψ w (Mu M hp ψ) (tm t) (sval w0 n a t)
  size : a.tmps.size = n
  defers : (w0.dm = false → a.defers = []) ∧ Marks P B hp ψ w (Mu M hp ψ) (a.defers ++ w0.ms)
  lt : ∀ t, ∀ l ∈ (tm t).locs, A l
  hlt : ∀ l ob, hp l = some ob → A l ∧ ∀ k ∈ ob.locs, A k
  bel : Stay B M w0.w w
def setF (tm : Nat → AV) : Option Nat → AV → (Nat → AV)
  | none, _ => tm
  | some d, v => fun t => if t = d then v else tm t
variable {tm : Nat → AV} {n : Nat} {A A' : Nat → Prop} {w0 : Fix}
theorem SimF.at (s : SimF P B M tm n hp A ψ w0 a w) {t : Nat} (h : t < n) : AVR P hp ψ w (Mu M hp ψ) (tm t) (a.tmps.getD t undef) := by
  have := s.av t
  rwa [sval, if_pos h] at this
theorem SimF.arg (s : SimF P B M tm n hp A ψ w0 a w) {z : XA} (hz : z.ok) (hn : ∀ k, z = .t k → k < n) {av : AV} (e : av = match z with | .t k => tm k | .int k n => .val (.int k) n | .bool b => .val .bool b | .str s => .val .str s | .nil => .cst (.slice none 0 0) | .fn f => .clo f [] | .nilp => .cst (.pointer none) | .nilm => .cst (.map none)) : AVR P hp ψ w (Mu M hp ψ) av (a.eval z.opnd) := by
  subst e
  cases z with
  | t k => exact s.at (hn k rfl)
  | int k m => exact int_avr hz
  | bool b => exact bool_avr
  | str x => exact ⟨by unfold Ty.shape Ty.isSt; simp [XA.opnd, Act.eval], rfl, hz⟩
  | nil => exact rfl
  | nilp => exact rfl
  | nilm => exact rfl
  | fn f => exact ⟨#[], rfl, rfl⟩
theorem SimF.step (s : SimF P B M tm n hp A ψ w0 a w) {eff : Eff} {d : Option Nat} {v : Value} (hfr : ¬ A fr) (hd : ∀ t, d = some t → t < n) (hAA : ∀ l, A l → A' l) (hA' : A' fr) (hpl : ∀ l ob, eff.put = some (l, ob) → A' l) (hev : ∀ l ∈ eff.v.locs, A' l) (hep : ∀ l ob, eff.put = some (l, ob) → ∀ k ∈ ob.locs, A' k)
    (h : OpPost P B M hp ψ w fr eff v w') : ∃ ψ', SimF P B M (setF tm d eff.v) n (eff.app hp) A' ψ' w0 (a.put d v) w' := by
  obtain ⟨ψ', q1, q2, q3, q4⟩ := h
  have hkeep : ∀ t, AVR P (eff.app hp) ψ' w' (Mu M (eff.app hp) ψ') (tm t) (sval w0 n a t) := fun t => q4 _ _ (fun hm => hfr (s.lt t _ hm)) (s.av t)
  refine ⟨ψ', q1, ?_, ?_, ?_, ?_, ?_, s.bel.trans q2⟩
  · intro t
    cases d with
    | none => exact hkeep t
    | some d =>
      have hdn := hd d rfl
      by_cases e : t = d
      · subst e
        have hs : t < a.tmps.size := by rw [s.size]; exact hdn
        simp only [setF, if_true, Act.put, sval, if_pos hdn]
        simpa [hs] using q3
      · have hk := hkeep t
        simp only [setF, if_neg e, Act.put, sval] at hk ⊢
        have : (a.tmps.setIfInBounds d v).getD t undef = a.tmps.getD t undef := by
          simp [Array.getElem?_setIfInBounds_ne (Ne.symm e)]
        rw [this]; exact hk
  · cases d with
    | none => exact s.size
    | some d => simp [Act.put, s.size]
  · have : (a.put d v).defers = a.defers := by cases d <;> rfl
    rw [this]; exact ⟨s.defers.1, s.defers.2.map fun u q => q4 _ _ (by simp [AV.locs]) q⟩
  · intro t l hl
    cases d with
    | none => exact hAA l (s.lt t l hl)
    | some d =>
      simp only [setF] at hl
      split at hl
      · exact hev l hl
      · exact hAA l (s.lt t l hl)
  · intro l ob hl
    obtain ⟨v1, ks, pt⟩ := eff
    cases pt with
    | none =>
      rw [app_none] at hl
      obtain ⟨k1, k2⟩ := s.hlt l ob (kill_some hl).2
      exact ⟨hAA l k1, fun k hk => hAA k (k2 k hk)⟩
    | some lo =>
      obtain ⟨l0, ob0⟩ := lo
      rw [app_put] at hl
      by_cases e : l = l0
      · subst e
        rw [putHp_same] at hl; injection hl with hl; subst hl
        exact ⟨hpl _ _ rfl, hep _ _ rfl⟩
      · rw [putHp_other _ _ e] at hl
        obtain ⟨k1, k2⟩ := s.hlt l ob (kill_some hl).2
        exact ⟨hAA l k1, fun k hk => hAA k (k2 k hk)⟩
theorem SimF.ctx (s : SimF P B M tm n hp A ψ w0 a w) (hfr : ¬ A fr) : Ctx P B M hp ψ w fr := by
  refine ⟨s.hok, ?_, fun l ob h hm => hfr ((s.hlt l ob h).2 _ hm)⟩
  cases h : hp fr with
  | none => rfl
  | some ob => exact absurd (s.hlt fr ob h).1 hfr
theorem SimF.drew (s : SimF P B M tm n hp A ψ w0 a w) : SimF P B M tm n hp A ψ w0 a { w with drawn := w.drawn + 1 } := by
  have hl : ∀ M', (∀ b, M' b → b < w.heap.size) → Later w M' { w with drawn := w.drawn + 1 } M' := fun M' h => ⟨Nat.le_refl _, fun _ _ _ => rfl, fun _ _ h => h, h⟩
  have hmu := hl _ s.hok.mu
  have hk : ∀ (f : Nat) l ob', l ≠ f → hp l = some ob' → ∃ ob, hp l = some ob ∧ ob.like ob' := fun _ _ ob' _ h => ⟨ob', h, like_refl _⟩
  have key : ∀ {av : AV} {v : Value}, AVR P hp ψ w (Mu M hp ψ) av v → AVR P hp ψ { w with drawn := w.drawn + 1 } (Mu M hp ψ) av v := by
    intro av v q
    -- a name that the value does not hold
    have : ∃ f, f ∉ av.locs := ⟨av.locs.foldl Nat.max 0 + 1, fun hm => by
      have key : ∀ (l : List Nat) (m x : Nat), x ∈ l ∨ x ≤ m → x ≤ l.foldl Nat.max m := by
        intro l
        induction l with
        | nil => intro m x h; simpa using h
        | cons y r ih =>
          intro m x h
          simp only [List.foldl_cons]
          apply ih
          rcases h with h | h
          · rcases List.mem_cons.1 h with h | h
            · right; subst h; exact Nat.le_max_right _ _
            · exact .inl h
          · exact .inr (Nat.le_trans h (Nat.le_max_left _ _))
      have := key av.locs 0 _ (.inl hm)
      omega⟩
    obtain ⟨f, hf⟩ := this
    exact AVR.later hmu (fun _ _ => rfl) (hk f) hf q
  have keys : ∀ {avs : List AV} {vs : List Value}, AVRs P hp ψ w (Mu M hp ψ) avs vs → AVRs P hp ψ { w with drawn := w.drawn + 1 } (Mu M hp ψ) avs vs := by
    intro avs
    induction avs with
    | nil => intro vs q; exact q
    | cons x r ih => rintro vs ⟨v, u, e, q1, q2⟩; exact ⟨v, u, e, key q1, ih q2⟩
  refine ⟨⟨fun l ob h => ?_, s.hok.dj, s.hok.mb, s.hok.md, s.hok.bz⟩, fun t => key (s.av t), s.size, ⟨s.defers.1, s.defers.2.map fun u q => key q⟩, s.lt, s.hlt, s.bel.drew⟩
  have := s.hok.ob l ob h
  cases ob with
  | box T cs => obtain ⟨b, cells, e, h1, h2, h3, h4⟩ := this; exact ⟨b, cells, e, h1, h2, keys h3, h4⟩
  | row e t xs => obtain ⟨cells, h1, h2⟩ := this; exact ⟨cells, h1, h2.mono fun x _ c q => q.later hmu⟩
  | mp k t xs => exact this
  | lp bs r => exact this
  | it k t left cur => exact this
end
end T
end Go.Proofs.Ytbbpiihbhdagnaa
