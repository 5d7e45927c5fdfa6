/- Typed abstract walk, part 14: regions, in the order of the text and in whatever order the tape draws. -/
import Derived.Test.YtbbpiihbhdagnaaT13
import Derived.RegionTactic
namespace Go.Proofs.Ytbbpiihbhdagnaa
set_option linter.unusedVariables false
set_option linter.unusedSimpArgs false
open Go.RowKit
namespace T

/-- The walk's state: the slots, the own blocks, the next name. -/
structure AS where
  tm : List (Nat × AV)
  hp : List (Nat × OB)
  nx : Nat
  kv : List Nat
def look : List (Nat × OB) → Nat → Option OB
  | [], _ => none
  | (k, ob) :: r, l => if l = k then some ob else look r l
def killL (h : List (Nat × OB)) (ks : List Nat) : List (Nat × OB) := if ks.isEmpty then h else h.filter fun p => !ks.contains p.1
def appL (e : Eff) (h : List (Nat × OB)) : List (Nat × OB) := match e.put with
  | none => killL h e.kill
  | some (l, ob) => (l, ob) :: (killL h e.kill).filter fun p => !(p.1 == l)
def setT (tm : List (Nat × AV)) : Option Nat → AV → List (Nat × AV)
  | none, _ => tm
  | some d, v => (d, v) :: tm
def ltAll (n : Nat) : List Nat → Bool
  | [] => true
  | x :: r => decide (x < n) && ltAll n r
def effOk (n : Nat) (e : Eff) : Bool := ltAll n e.v.locs && match e.put with
  | none => true
  | some (l, ob) => decide (l < n) && ltAll n ob.locs
def XO.gv (x : XO) (tm : List (Nat × AV)) : Option (AV × Bool) := match x.guard with
  | none => none
  | some (_, t, b) => some (tmG tm t, b)
def stepT (C : List Ent) (st : AS) (x : XO) : Option (Prop × AS) :=
  match gop C (look st.hp) st.nx (x.gv st.tm) x.op (x.args.map (XA.av st.tm)) with
  | none => none
  | some (p, e) => if effOk (st.nx + 1) e then some (p, ⟨setT st.tm x.dst e.v, appL e st.hp, st.nx + 1, st.kv⟩) else none
def runT (C : List Ent) : AS → List XO → Option (Prop × AS)
  | st, [] => some (True, st)
  | st, x :: xs => match stepT C st x with
    | none => none
    | some (p, st1) => match runT C st1 xs with
      | none => none
      | some (q, st2) => some (p ∧ q, st2)

/-! The order may be any: what each operation reads and turns. -/
structure Tr where
  dst : Option Nat
  e : Eff
  R : List Nat
  fr : Nat
  ast : List Nat
def reach (h : Hp) (args : List AV) : List Nat := AV.locsL args ++ (AV.locsL args).flatMap fun l => match h l with
  | some ob => ob.locs
  | none => []
/-- What an operation reads of the own blocks: a move reads none. -/
def reachO (op : XOp) (h : Hp) (args : List AV) : List Nat := match op with
  | .mv => []
  | _ => reach h args
theorem reachO_or (op : XOp) (h : Hp) (args : List AV) : reachO op h args = [] ∨ reachO op h args = reach h args := by
  cases op <;> first | exact .inl rfl | exact .inr rfl
def restr (h : Hp) (R : List Nat) : Hp := fun l => if l ∈ R then h l else none
def inAll (R : List Nat) : List Nat → Bool
  | [] => true
  | x :: r => R.contains x && inAll R r
def effIn (R : List Nat) (e : Eff) : Bool := inAll R e.v.locs && inAll R e.kill && match e.put with
  | none => true
  | some (l, ob) => R.contains l && inAll R ob.locs
def stepD (C : List Ent) (st : AS) (x : XO) : Option (Prop × AS × Tr) :=
  match gop C (restr (look st.hp) (reachO x.op (look st.hp) (x.args.map (XA.av st.tm)))) st.nx (x.gv st.tm) x.op (x.args.map (XA.av st.tm)) with
  | none => none
  | some (p, e) => if effIn (st.nx :: (reachO x.op (look st.hp) (x.args.map (XA.av st.tm)) ++ AV.locsL (x.args.map (XA.av st.tm)))) e then
      some (p, ⟨setT st.tm x.dst e.v, appL e st.hp, st.nx + 1, st.kv⟩, ⟨x.dst, e, reachO x.op (look st.hp) (x.args.map (XA.av st.tm)), st.nx, x.ast⟩) else none
def runD (C : List Ent) : AS → List XO → Option (Prop × AS × List Tr)
  | st, [] => some (True, st, [])
  | st, x :: xs => match stepD C st x with
    | none => none
    | some (p, st1, t) => match runD C st1 xs with
      | none => none
      | some (q, st2, ts) => some (p ∧ q, st2, t :: ts)
def Eff.tch (e : Eff) : List Nat := match e.put with
  | none => e.kill
  | some (l, _) => l :: e.kill
/-- Do two operations of a region meet in memory? -/
def meet (a b : Tr) : Bool := a.e.tch.any (fun l => b.R.contains l || b.e.tch.contains l) || b.e.tch.any fun l => a.R.contains l
def okD : Nat → List Tr → Bool
  | _, [] => true
  | i, a :: r => (r.all fun b => if b.ast.contains i then true else !meet a b) && okD (i + 1) r
def runR (C : List Ent) (draw : Bool) (st : AS) (xs : List XO) : Option (Prop × AS) :=
  if draw then match runD C st xs with
    | none => none
    | some (p, st', ts) => if okD 0 ts then some (p, st') else none
  else runT C st xs

/-! What is checked once for all. -/
def XA.okB : XA → Bool
  | .int k n => decide (k.min ≤ n) && decide (n ≤ k.max)
  | .str s => decide (s.size ≤ maxLen)
  | _ => true
def XO.reads (x : XO) : List Nat := x.args.flatMap XA.slot ++ match x.guard with
  | some (_, t, _) => [t]
  | none => []
def inRange (n : Nat) : Option Nat → Bool
  | none => true
  | some d => decide (d < n)
def listChk (P : Program) (n : Nat) (ops : Array Oper) : List Oper → List XO → Bool
  | [], [] => true
  | o :: os, x :: xs => xoChk P ops o x && inRange n x.dst && x.reads.all (· < n) && x.args.all XA.okB && listChk P n ops os xs
  | _, _ => false
/-- Operation i of the text comes before operation j in every order if they meet in a slot. -/
def slotsMeet (a b : XO) : Bool := (match a.dst with | some d => b.reads.contains d || b.dst == some d | none => false) || (match b.dst with | some d => a.reads.contains d | none => false)
def slotsOk : Nat → List XO → Bool
  | _, [] => true
  | i, a :: r => (r.all fun b => b.ast.contains i || !slotsMeet a b) && slotsOk (i + 1) r
def astOk (ops : Array Oper) (xs : List XO) : Nat → List XO → Bool
  | _, [] => true
  | i, x :: r => (match ops[i]? with
      | none => false
      | some o => o.after.all (fun e => !Region.binds .any e || decide (e.on < i)) && x.ast.all fun k => o.after.any fun e => Region.binds .any e && (k == e.on || (match xs[e.on]? with | some y => y.ast.contains k | none => false)))
    && astOk ops xs (i + 1) r
def regChk (P : Program) (n : Nat) (ops : Array Oper) (draw : Bool) (xs : List XO) : Bool :=
  listChk P n ops ops.toList xs && (!draw || (P.follows .mixedOrders && slotsOk 0 xs && astOk ops xs 0 xs))

section
variable {P : Program} {B : Nat} {M : Nat → Prop} {hp lh : Hp} {ψ : Nat → Value} {w w' : World} {fr : Nat} {C : List Ent} {o : Oper} {a : Act} {n : Nat} {w0 : Fix} {Q : Exit → Act → World → Prop} {ops : Array Oper}
theorem look_kill {h : List (Nat × OB)} {ks : List Nat} : look (killL h ks) = kill (look h) ks := by
  funext l
  unfold killL
  split
  · rename_i he
    rw [List.isEmpty_iff] at he
    subst he
    rw [kill_nil]
  · induction h with
    | nil => simp [look, kill]
    | cons p r ih =>
      obtain ⟨k, ob⟩ := p
      by_cases hk : k ∈ ks
      · rw [List.filter_cons_of_neg (by simpa using hk), ih]
        simp only [kill, look]
        split
        · rfl
        · rename_i hl
          rw [if_neg (fun e => hl (by rw [e]; exact hk))]
      · rw [List.filter_cons_of_pos (by simpa using hk)]
        simp only [look]
        by_cases e : l = k
        · subst e; simp [kill, hk, look]
        · rw [if_neg e, ih]; simp only [kill, look, if_neg e]
theorem look_put {h : List (Nat × OB)} {l : Nat} {ob : OB} : look ((l, ob) :: h.filter fun p => !(p.1 == l)) = putHp (look h) l ob := by
  funext x
  simp only [look, putHp]
  split
  · rfl
  · rename_i hx
    induction h with
    | nil => rfl
    | cons p r ih =>
      obtain ⟨k, ob'⟩ := p
      by_cases hk : k = l
      · subst hk
        rw [List.filter_cons_of_neg (by simp), ih]
        simp only [look, if_neg hx]
      · rw [List.filter_cons_of_pos (by simpa using hk)]
        simp only [look, ih]
theorem look_app {e : Eff} {h : List (Nat × OB)} : look (appL e h) = e.app (look h) := by
  obtain ⟨v, ks, pt⟩ := e
  cases pt with
  | none => exact look_kill
  | some lo =>
    obtain ⟨l, ob⟩ := lo
    rw [app_put, ← look_kill]
    exact look_put
theorem setT_get {tm : List (Nat × AV)} {d : Option Nat} {v : AV} : tmG (setT tm d v) = setF (tmG tm) d v := by
  funext t
  cases d <;> rfl
theorem ltAll_mem {n : Nat} : ∀ {l : List Nat}, ltAll n l = true → ∀ x ∈ l, x < n
  | [], _, x, hx => by simp at hx
  | y :: r, h, x, hx => by
    simp only [ltAll, Bool.and_eq_true, decide_eq_true_eq] at h
    rcases List.mem_cons.1 hx with rfl | hx
    · exact h.1
    · exact ltAll_mem h.2 x hx
theorem inAll_mem {R : List Nat} : ∀ {l : List Nat}, inAll R l = true → ∀ x ∈ l, x ∈ R
  | [], _, x, hx => by simp at hx
  | y :: r, h, x, hx => by
    simp only [inAll, Bool.and_eq_true] at h
    rcases List.mem_cons.1 hx with rfl | hx
    · simpa using h.1
    · exact inAll_mem h.2 x hx
theorem okB_ok {z : XA} (h : z.okB = true) : z.ok := by
  cases z <;> simp [XA.okB, XA.ok] at h ⊢
  · exact h
  · exact h
/-- The operand's abstract value, off the slots as a function. -/
def avF (tm : Nat → AV) : XA → AV
  | .t k => tm k
  | .int k n => .val (.int k) n
  | .bool b => .val .bool b
  | .str s => .val .str s
  | .nil => .cst (.slice none 0 0)
  | .fn f => .clo f []
  | .nilp => .cst (.pointer none)
  | .nilm => .cst (.map none)
theorem av_avF (tm : List (Nat × AV)) (z : XA) : XA.av tm z = avF (tmG tm) z := by cases z <;> rfl
def gvF (tm : Nat → AV) (x : XO) : Option (AV × Bool) := match x.guard with
  | none => none
  | some (_, t, b) => some (tm t, b)
theorem gv_gvF (tm : List (Nat × AV)) (x : XO) : x.gv tm = gvF (tmG tm) x := by
  unfold XO.gv gvF; cases x.guard <;> rfl
variable {tm : Nat → AV} {A A' : Nat → Prop}
theorem SimF.args (s : SimF P B M tm n hp A ψ w0 a w) : ∀ {zs : List XA}, (zs.all XA.okB = true) → ((zs.flatMap XA.slot).all (· < n) = true) → AVRs P hp ψ w (Mu M hp ψ) (zs.map (avF tm)) (zs.map fun z => a.eval z.opnd)
  | [], _, _ => rfl
  | z :: zs, h, hn => by
    simp only [List.all_cons, Bool.and_eq_true] at h
    simp only [List.flatMap_cons, List.all_append, Bool.and_eq_true] at hn
    exact ⟨_, _, rfl, s.arg (okB_ok h.1) (fun k e => by have := hn.1; rw [e] at this; simpa [XA.slot] using this) (by cases z <;> rfl), s.args h.2 hn.2⟩
theorem SimF.argLocs (s : SimF P B M tm n hp A ψ w0 a w) : ∀ {zs : List XA}, ∀ l ∈ AV.locsL (zs.map (avF tm)), A l
  | [], l, h => by simp [AV.locsL] at h
  | z :: zs, l, h => by
    simp only [List.map_cons, AV.locsL, List.mem_append] at h
    rcases h with h | h
    · cases z <;> simp [avF, AV.locs, AV.locsL] at h
      exact s.lt _ l h
    · exact s.argLocs l h
/-- One operation, from any state. -/
theorem step_ok {ro : Option Nat} (hC : ∀ e ∈ C, Con P e) {x : XO} {p : Prop} {eff : Eff} (s : SimF P B M tm n hp A ψ w0 a w) (hchk : xoChk P ops o x = true) (hd : inRange n x.dst = true) (hrd : x.reads.all (· < n) = true) (hok : x.args.all XA.okB = true)
    (hlh : ∀ l ob, lh l = some ob → hp l = some ob) (hfr : ¬ A fr) (hAA : ∀ l, A l → A' l) (hA' : A' fr) (hpl : ∀ l ob, eff.put = some (l, ob) → A' l) (hev : ∀ l ∈ eff.v.locs, A' l) (hep : ∀ l ob, eff.put = some (l, ob) → ∀ k ∈ ob.locs, A' k)
    (h : gop C lh fr (gvF tm x) x.op (x.args.map (avF tm)) = some (p, eff)) (hp' : p) {K : Act → World → Prop} (hK : ∀ ψ' a' w', SimF P B M (setF tm x.dst eff.v) n (eff.app hp) A' ψ' w0 a' w' → K a' w') :
    Up ro P ops o a w K Q := by
  have hdst : o.dst = x.dst := by
    unfold xoChk at hchk
    simp only [Bool.and_eq_true, beq_iff_eq] at hchk
    exact hchk.1.1
  refine gop_ok hC hlh hchk (s.args hok (by unfold XO.reads at hrd; rw [List.all_append, Bool.and_eq_true] at hrd; exact hrd.1)) (fun hm => hfr (s.argLocs fr hm)) ?_ h hp' (s.ctx hfr) fun v w' hpost => ?_
  · unfold gvF
    cases hg : x.guard with
    | none => rfl
    | some g =>
      obtain ⟨j, t, b⟩ := g
      have ht : t < n := by
        rw [List.all_eq_true] at hrd
        have := hrd t (by simp [XO.reads, hg])
        simpa using this
      exact ⟨tm t, rfl, s.at ht, by rw [s.size]; exact ht⟩
  · rw [hdst]
    obtain ⟨ψ', hs⟩ := s.step (d := x.dst) hfr (fun t e => by rw [e] at hd; simpa [inRange] using hd) hAA hA' hpl hev hep hpost
    exact hK ψ' _ w' hs

/-- The walk's state and the program's. -/
def Sim (P : Program) (B : Nat) (M : Nat → Prop) (n : Nat) (st : AS) (ψ : Nat → Value) (w0 : Fix) (a : Act) (w : World) : Prop :=
  SimF P B M (tmG st.tm) n (look st.hp) (fun l => l < st.nx) ψ w0 a w
theorem runT_tail {ro : Option Nat} (hC : ∀ e ∈ C, Con P e) : ∀ (os : List Oper) (xs : List XO) (k : Nat) (tl : List Oper) (rest : List Nat), ops.toList.drop k = os ++ tl → listChk P n ops os xs = true → ∀ {st st' : AS} {p : Prop}, runT C st xs = some (p, st') → p → ∀ {ψ : Nat → Value} {a : Act} {w : World}, Sim P B M n st ψ w0 a w →
    (∀ ψ' a' w', Sim P B M n st' ψ' w0 a' w' → wpOpsIn (Fen ro) 0 P ops Q rest a' w') → wpOpsIn (Fen ro) 0 P ops Q (List.range' k os.length ++ rest) a w
  | [], xs, k, tl, rest, hk, hchk, st, st', p, h, hp', ψ, a, w, s, hQ => by
    cases xs with
    | cons _ _ => simp [listChk] at hchk
    | nil =>
      simp only [runT, Option.some.injEq, Prod.mk.injEq] at h
      obtain ⟨_, rfl⟩ := h
      exact hQ ψ a w s
  | o :: os, xs, k, tl, rest, hk, hchk, st, st', p, h, hp', ψ, a, w, s, hQ => by
    cases xs with
    | nil => simp [listChk] at hchk
    | cons x xs =>
      simp only [listChk, Bool.and_eq_true] at hchk
      obtain ⟨⟨⟨⟨h1, h2⟩, h3⟩, h4⟩, h5⟩ := hchk
      have hok : ops[k]? = some o := by
        have : (ops.toList.drop k)[0]? = some o := by rw [hk]; rfl
        rw [List.getElem?_drop] at this
        simpa using this
      simp only [runT] at h
      split at h
      · cases h
      · rename_i p1 st1 hst
        split at h
        · cases h
        · rename_i q st2 hrun
          simp only [Option.some.injEq, Prod.mk.injEq] at h
          obtain ⟨rfl, rfl⟩ := h
          unfold stepT at hst
          split at hst
          · cases hst
          · rename_i p2 e hg
            split at hst
            · rename_i hef
              simp only [Option.some.injEq, Prod.mk.injEq] at hst
              obtain ⟨rfl, rfl⟩ := hst
              simp only [List.length_cons, List.range'_succ, List.cons_append, wpOpsIn, hok]
              unfold effOk at hef
              simp only [Bool.and_eq_true] at hef
              have ef1 := ltAll_mem hef.1
              refine up_ops (step_ok (lh := look st.hp) (fr := st.nx) (A' := fun l => l < st.nx + 1) hC s h1 h2 h3 h4 (fun _ _ h => h) (Nat.lt_irrefl _) (fun l h => Nat.lt_succ_of_lt h) (Nat.lt_succ_self _) ?_ ef1 ?_ ?_ hp'.1 fun ψ' a' w' hs => ?_)
              · intro l ob hput
                have := hef.2
                rw [hput] at this
                simp only [Bool.and_eq_true, decide_eq_true_eq] at this
                exact this.1
              · intro l ob hput
                have := hef.2
                rw [hput] at this
                simp only [Bool.and_eq_true] at this
                exact ltAll_mem this.2
              · rw [← gv_gvF, ← hg]
                congr 1
              · refine runT_tail hC os xs (k + 1) tl rest (by rw [← List.tail_drop, hk]; rfl) h5 hrun hp'.2 (ψ := ψ') ?_ hQ
                show SimF _ _ _ (tmG (setT st.tm x.dst e.v)) _ (look (appL e st.hp)) _ _ _ _ _
                rw [setT_get, look_app]
                exact hs
            · cases hst
theorem runT_ok {ro : Option Nat} (hC : ∀ e ∈ C, Con P e) (os : List Oper) (xs : List XO) (k : Nat) (hk : ops.toList.drop k = os) (hchk : listChk P n ops os xs = true) {st st' : AS} {p : Prop} (h : runT C st xs = some (p, st')) (hp' : p) {ψ : Nat → Value} {a : Act} {w : World} (s : Sim P B M n st ψ w0 a w)
    (hQ : ∀ ψ' a' w', Sim P B M n st' ψ' w0 a' w' → Q .normal a' w') : wpOpsIn (Fen ro) 0 P ops Q (List.range' k os.length) a w := by
  have := runT_tail (ro := ro) (Q := Q) hC os xs k [] [] (by rw [hk, List.append_nil]) hchk h hp' s hQ
  rwa [List.append_nil] at this
theorem region_T {ro : Option Nat} (hC : ∀ e ∈ C, Con P e) {id : Nat} {xs : List XO} {st st' : AS} {p : Prop} (hchk : listChk P n ops ops.toList xs = true) (h : runT C st xs = some (p, st')) (hp' : p) (s : Sim P B M n st ψ w0 a w)
    (hQ : ∀ ψ' a' w', Sim P B M n st' ψ' w0 a' w' → Q .normal a' w') : (Code.region id ops false).wpIn (Fen ro) 0 P Q a w := by
  refine wpIn_region ?_
  have := runT_ok (ro := ro) (ops := ops) (Q := Q) hC ops.toList xs 0 (by simp) hchk h hp' s hQ
  rwa [Array.length_toList, ← List.range_eq_range'] at this
end
end T
end Go.Proofs.Ytbbpiihbhdagnaa
