/- Typed abstract walk, part 12: each operation does what the walk says: all of them. -/
import Derived.Test.YtbbpiihbhdagnaaT11
namespace Go.Proofs.Ytbbpiihbhdagnaa
set_option linter.unusedVariables false
set_option linter.unusedSimpArgs false
open Go.RowKit
namespace T
section
variable {P : Program} {B : Nat} {M : Nat → Prop} {hp lh : Hp} {ψ : Nat → Value} {w w' : World} {fr : Nat} {C : List Ent} {o : Oper} {a : Act}
theorem live_ptr (h0 : HOK P B M hp ψ w) {l : Nat} {ob : OB} (hl : hp l = some ob) {o' : Nat} {v : Value} (hX : AVR P hp ψ w (Mu M hp ψ) (.ptr l o') v) : ∃ b, v = .pointer (some ⟨b, o', none⟩) := by
  obtain ⟨b, _, e⟩ := hX _ hl; exact ⟨b, e⟩
theorem nilck_run {X : Operand} {ad : Addr} (ho : o.op = .nilCheck X) (e : a.eval X = .pointer (some ad)) : (execOp a.eval o).run P w = .ok (.value (.pointer (some ad))) w := by
  unfold execOp; simp only [ho, e]; rfl
theorem len_ok {T : TypeId} {str : Bool} {ty : Array TypeId} {X : Operand} {x : AV} {n : Nat} (ho : o.op = .call ⟨.builtin .len, #[X], ty⟩) (hT : ty[0]? = some T) (hu : (match P.underlying T with | some (.slice _) => !str | some .string => str | _ => false) = true) (hlh : ∀ l ob, lh l = some ob → hp l = some ob)
    (hX : AVR P hp ψ w (Mu M hp ψ) x (a.eval X)) (h : lenx lh str x = some n) (c : Ctx P B M hp ψ w fr) : Does P o a w (OpPost P B M hp ψ w fr (pur (.val (.int .i64) (n : Int)))) := by
  have rng : ∀ k : Nat, k ≤ maxLen → IntKind.i64.min ≤ (k : Int) ∧ (k : Int) ≤ IntKind.i64.max := by
    intro k hk
    simp only [maxLen] at hk
    have e1 : IntKind.i64.min = -9223372036854775808 := rfl
    have e2 : IntKind.i64.max = 9223372036854775807 := rfl
    omega
  have sl : ∀ (k : Nat), k ≤ maxLen → str = false → (∃ A cp, a.eval X = .slice A k cp) → Does P o a w (OpPost P B M hp ψ w fr (pur (.val (.int .i64) (k : Int)))) := by
    rintro k hk rfl ⟨A, cp, e1⟩
    refine does_run (v := .int .i64 k) ?_ (c.pure (int_avr (rng k hk)))
    split at hu
    · rename_i e hu'
      unfold execOp; simp only [ho]
      simp [resolve, invoke, builtin, Builtin.len_, hT, run_underlying hu', e1, goInt]
    · cases hu
    · cases hu
  have st : ∀ (s : ByteArray), s.size ≤ maxLen → str = true → a.eval X = .string s → Does P o a w (OpPost P B M hp ψ w fr (pur (.val (.int .i64) (s.size : Int)))) := by
    rintro s hk rfl e1
    refine does_run (v := .int .i64 s.size) ?_ (c.pure (int_avr (rng s.size hk)))
    split at hu
    · simp at hu
    · rename_i hu'
      unfold execOp; simp only [ho]
      simp [resolve, invoke, builtin, Builtin.len_, hT, run_underlying hu', e1, goInt]
    · cases hu
  unfold lenx at h
  split at h
  · split at h
    · rename_i hl
      injection h with h; subst h
      have hl' := hlh _ _ hl
      have eX := hX _ hl'
      obtain ⟨cells, hown, _⟩ := c.hok.ob _ _ hl'
      rcases id hown.2 with ⟨q, q'⟩ | ⟨g, cap, cur, q, _, _, q1, q2, _⟩
      · rw [q'] at *
        exact sl 0 (Nat.zero_le _) rfl ⟨_, _, by rw [eX, q]⟩
      · exact sl _ (Nat.le_trans q1 q2) rfl ⟨_, _, by rw [eX, q]⟩
    · cases h
  · rename_i t xs
    injection h with h; subst h
    obtain ⟨A, n, cp, e1, e2, e3, e4, _⟩ := (RdV.one (t := .sl t) hX rfl rfl).1
    simp only [List.cons.injEq, and_true] at e1
    exact sl _ (by omega) rfl ⟨A, cp, by rw [e1, e2]⟩
  · injection h with h; subst h
    have := (RdV.one (t := .str) hX rfl rfl).1
    exact st _ this.2 rfl (avr_str hX)
  · injection h with h; subst h
    have eX : a.eval X = _ := hX
    exact sl 0 (Nat.zero_le _) rfl ⟨none, 0, eX⟩
  · cases h
theorem callf_ok {Y : Operand} {As : Array Operand} {ts : Array TypeId} {f : FuncId} {cap : Array Value} {R : Value → World → Prop} (ho : o.op = .call ⟨.value Y, As, ts⟩) (hY : a.eval Y = .func (.func f) #[] cap) (hf : funcOk P f = true)
    (hc : Calls P f (As.map a.eval ++ cap) w fun e w' => ∃ v, e = .returned v ∧ R v w') : Does P o a w R := by
  refine does_call ?_ hc
  unfold funcOk at hf
  split at hf
  · rename_i fn hfn
    simp only [Bool.and_eq_true, bne_iff_ne] at hf
    obtain ⟨h1, h2⟩ := hf
    unfold execOp; simp only [ho]
    obtain ⟨cd, hcd⟩ := Option.isSome_iff_exists.1 h2
    simp [resolve, Deferred.ofValue, invoke, callFunc, hY, hfn, h1, hcd]
  · cases hf
theorem call1_ok {Y : Operand} {As : Array Operand} {ts : Array TypeId} {ty r : Ty} {F : ty.den → r.den} {d : ty.den} {ls : List Nat} {x : AV} (ho : o.op = .call ⟨.value Y, As, ts⟩) (hlh : ∀ l ob, lh l = some ob → hp l = some ob) (hY : AVR P hp ψ w (Mu M hp ψ) (.val (.fn ty r) F) (a.eval Y))
    (hv : AVRs P hp ψ w (Mu M hp ψ) [x] (As.toList.map a.eval)) (h : rd lh ty x = some (d, ls)) (c : Ctx P B M hp ψ w fr) : Does P o a w (OpPost P B M hp ψ w fr ⟨.val r (F d), if r.scalar then [] else ls, none⟩) := by
  obtain ⟨f, cap, e, hfo, hfn⟩ := (RdV.one (t := .fn ty r) hY rfl rfl).1
  simp only [List.cons.injEq, and_true] at e
  obtain ⟨v, hAs, hx⟩ := avr1 hv
  have hx' := rd_ok c.hok hlh h hx (ls' := ls) (fun _ h => h)
  have hcl := hfn w (Mu M (kill hp ls) ψ) ⟨Nat.le_refl _, fun _ _ _ => rfl, fun b _ q => kill_mu b q, kill_bound c.hok ls⟩ d v hx'.1 hx'.2
  refine callf_ok ho e hfo ?_
  rw [show As.map a.eval ++ cap = #[v] ++ cap by congr 1; apply Array.ext'; simpa using hAs]
  refine Calls.mono hcl ?_
  rintro en w' ⟨u, rfl, h1, h2, hb⟩
  refine ⟨u, rfl, ?_⟩
  by_cases hs : r.scalar = true
  · rw [if_pos hs]; exact c.quiet hb ⟨h1, scalar_rd hs h2⟩
  · rw [if_neg hs]; exact c.kills hb ⟨h1, h2⟩
theorem call2_ok {Y : Operand} {As : Array Operand} {ts : Array TypeId} {ty tz r : Ty} {F : ty.den → tz.den → r.den} {d : ty.den} {e : tz.den} {ls ls2 : List Nat} {x y : AV} (ho : o.op = .call ⟨.value Y, As, ts⟩) (hlh : ∀ l ob, lh l = some ob → hp l = some ob) (hY : AVR P hp ψ w (Mu M hp ψ) (.val (.fn2 ty tz r) F) (a.eval Y))
    (hv : AVRs P hp ψ w (Mu M hp ψ) [x, y] (As.toList.map a.eval)) (h : rd lh ty x = some (d, ls)) (h' : rd lh tz y = some (e, ls2)) (c : Ctx P B M hp ψ w fr) : Does P o a w (OpPost P B M hp ψ w fr ⟨.val r (F d e), if r.scalar then [] else ls ++ ls2, none⟩) := by
  obtain ⟨f, cap, e', hfo, hfn⟩ := (RdV.one (t := .fn2 ty tz r) hY rfl rfl).1
  simp only [List.cons.injEq, and_true] at e'
  obtain ⟨v, v2, hAs, hx, hy⟩ := avr2 hv
  have hx' := rd_ok c.hok hlh h hx (ls' := ls ++ ls2) (fun _ h => List.mem_append_left _ h)
  have hy' := rd_ok c.hok hlh h' hy (ls' := ls ++ ls2) (fun _ h => List.mem_append_right _ h)
  have hcl := hfn w (Mu M (kill hp (ls ++ ls2)) ψ) ⟨Nat.le_refl _, fun _ _ _ => rfl, fun b _ q => kill_mu b q, kill_bound c.hok _⟩ d v e v2 hx'.1 hx'.2 hy'.1 hy'.2
  refine callf_ok ho e' hfo ?_
  rw [show As.map a.eval ++ cap = #[v, v2] ++ cap by congr 1; apply Array.ext'; simpa using hAs]
  refine Calls.mono hcl ?_
  rintro en w' ⟨u, rfl, h1, h2, hb⟩
  refine ⟨u, rfl, ?_⟩
  by_cases hs : r.scalar = true
  · rw [if_pos hs]; exact c.quiet hb ⟨h1, scalar_rd hs h2⟩
  · rw [if_neg hs]; exact c.kills hb ⟨h1, h2⟩
theorem avs0 {hp : Hp} {M' : Nat → Prop} {avs : List AV} (h : AVRs P hp ψ w M' avs []) : avs = [] := by
  cases avs with
  | nil => rfl
  | cons x r => obtain ⟨_, _, q, _⟩ := h; cases q
theorem avs1 {hp : Hp} {M' : Nat → Prop} {avs : List AV} {v : Value} (h : AVRs P hp ψ w M' avs [v]) : ∃ x, avs = [x] ∧ AVR P hp ψ w M' x v := by
  cases avs with
  | nil => cases (show _ = _ from h)
  | cons x r =>
    obtain ⟨_, _, q, q1, q2⟩ := h
    injection q with q q'; subst q q'
    exact ⟨x, by rw [avs0 q2], q1⟩
theorem avs2 {hp : Hp} {M' : Nat → Prop} {avs : List AV} {v u : Value} (h : AVRs P hp ψ w M' avs [v, u]) : ∃ x y, avs = [x, y] ∧ AVR P hp ψ w M' x v ∧ AVR P hp ψ w M' y u := by
  cases avs with
  | nil => cases (show _ = _ from h)
  | cons x r =>
    obtain ⟨_, _, q, q1, q2⟩ := h
    injection q with q q'; subst q q'
    obtain ⟨y, rfl, q3⟩ := avs1 q2
    exact ⟨x, y, rfl, q1, q3⟩
theorem avsS {hp : Hp} {M' : Nat → Prop} {avs : List AV} {v : Value} {vs : List Value} (h : AVRs P hp ψ w M' avs (v :: vs)) : ∃ x r, avs = x :: r ∧ AVR P hp ψ w M' x v ∧ AVRs P hp ψ w M' r vs := by
  cases avs with
  | nil => cases (show _ = _ from h)
  | cons x r =>
    obtain ⟨_, _, q, q1, q2⟩ := h
    injection q with q q'; subst q q'
    exact ⟨x, r, rfl, q1, q2⟩
theorem avIntK_some {x : AV} {n : IntKind × Int} (h : avIntK x = some n) : x = .val (.int n.1) n.2 := by
  unfold avIntK at h
  split at h
  · injection h with h; subst h; rfl
  · cases h
theorem avBool_some {x : AV} {b : Bool} (h : avBool x = some b) : x = .val .bool b := by
  unfold avBool at h
  split at h
  · injection h with h; subst h; rfl
  · cases h
theorem isNil_eq {X : Operand} (h : isNil X = true) : X = .const (.slice none 0 0) := by
  unfold isNil at h
  split at h
  · rfl
  · cases h
theorem nilck_ok {X : Operand} {x : AV} {p : Prop} {eff : Eff} (ho : o.op = .nilCheck X) (hlh : ∀ l ob, lh l = some ob → hp l = some ob) (hX : AVR P hp ψ w (Mu M hp ψ) x (a.eval X)) (h : opx C lh fr .nilck [x] = some (p, eff)) (c : Ctx P B M hp ψ w fr) : Does P o a w (OpPost P B M hp ψ w fr eff) := by
  have fin : ∀ ad, a.eval X = .pointer (some ad) → eff = pur x → Does P o a w (OpPost P B M hp ψ w fr eff) := by
    rintro ad e rfl
    exact does_run (nilck_run ho e) (c.pure (by rw [← e]; exact hX))
  cases x with
  | ptr l o' =>
    simp only [opx, Option.map_eq_some_iff, Prod.mk.injEq] at h
    obtain ⟨ob, hl, _, rfl⟩ := h
    obtain ⟨b, e⟩ := live_ptr c.hok (hlh _ _ hl) hX
    exact fin _ e rfl
  | eptr l i o' =>
    simp only [opx] at h
    split at h
    · rename_i hl
      simp only [Option.some.injEq, Prod.mk.injEq] at h
      obtain ⟨_, rfl⟩ := h
      obtain ⟨g, n, cp, _, e⟩ := hX _ _ _ (hlh _ _ hl)
      exact fin _ e rfl
    · cases h
  | val t d =>
    cases t with
    | ptr t =>
      simp only [opx, Option.some.injEq, Prod.mk.injEq] at h
      obtain ⟨_, rfl⟩ := h
      obtain ⟨b, off, cc, e, _⟩ := avr_ptr hX
      exact fin _ e rfl
    | _ => simp [opx] at h
  | _ => simp [opx] at h
/-- Every operation but 'pick'. -/
theorem mapset_all {T : TypeId} {k : IntKind} {t : Ty} {X I Y : Operand} {z0 z1 z2 : XA} {avs : List AV} {p : Prop} {eff : Eff} (ho : o.op = .mapUpdate T X I Y ∨ o.op = .insert T X I Y) (h1 : opOk X z0 = true) (h2 : opOk I z1 = true) (h3 : opOk Y z2 = true) (h4 : mapOk P T k t = true) (hlh : ∀ l ob, lh l = some ob → hp l = some ob)
    (hv : AVRs P hp ψ w (Mu M hp ψ) avs [a.eval z0.opnd, a.eval z1.opnd, a.eval z2.opnd]) (h : opx C lh fr (.mapset k t) avs = some (p, eff)) (c : Ctx P B M hp ψ w fr) : Does P o a w (OpPost P B M hp ψ w fr eff) := by
  obtain ⟨x, r, rfl, q, hv⟩ := avsS hv
  obtain ⟨y, u, rfl, q2, q3⟩ := avs2 hv
  rw [← (opOk_eq h1).1] at q
  rw [← (opOk_eq h2).1] at q2
  rw [← (opOk_eq h3).1] at q3
  simp only [opx] at h
  split at h
  · rename_i l xs hm
    split at h
    · rename_i i hi
      split at h
      · rename_i t' d
        simp only [Option.map_eq_some_iff, Prod.mk.injEq] at h
        obtain ⟨e, he, _, rfl⟩ := h
        refine mapset_ok ho h4 hlh q q2 ?_ hm hi c
        obtain ⟨qq, qe⟩ := cast?_some he
        subst qq
        simp only at qe; subst qe
        exact q3
      · cases h
    · cases h
  · cases h
theorem isnil_ok {op : BinOp} {neg : Bool} {t : Ty} {T : TypeId} {X Y : Operand} {yt : TypeId} {x : AV} {xs : List t.den} {ls : List Nat} (ho : o.op = .binOp op T X Y yt) (hop : op = if neg then .neq else .eql) (hY : isNil Y = true) (hT : (match P.underlying T with | some (.slice _) => true | _ => false) = true)
    (hlh : ∀ l ob, lh l = some ob → hp l = some ob) (hX : AVR P hp ψ w (Mu M hp ψ) x (a.eval X)) (h : rd lh (.sl t) x = some (xs, ls)) (c : Ctx P B M hp ψ w fr) : Does P o a w (OpPost P B M hp ψ w fr (pur (if neg then .ub True (xs = []) else .ub (xs = []) True))) := by
  subst hop
  have hy : a.eval Y = .slice none 0 0 := by rw [isNil_eq hY]; rfl
  have r := rd_ok c.hok hlh h hX (ls' := ls) (fun _ h => h)
  obtain ⟨A, n, cp, e1, h1, _, _, h4⟩ := (RdV.one r rfl rfl).1
  simp only [List.cons.injEq, and_true] at e1
  split at hT
  · rename_i e hu
    have he : (Op.equal T (.slice A n cp) (.slice none 0 0)).run P w = .ok A.isNone w := by
      unfold Op.equal Op.maxDepth
      rw [show (10000 : Nat) = 9999 + 1 from rfl, Op.equalIn]
      cases A <;> simp [run_underlying hu]
    have hA : A.isNone = true → xs = [] := fun hA => by
      rcases h4 with h4 | ⟨b, off, cc, e', _⟩
      · exact List.eq_nil_of_length_eq_zero (by omega)
      · rw [e'] at hA; cases hA
    cases neg with
    | false =>
      refine does_run (v := .bool A.isNone) (w' := w) ?_ (c.pure ⟨A.isNone, rfl, hA, fun _ => trivial⟩)
      unfold execOp; simp only [ho, e1, hy, binOp, eqGuard, if_false, Bool.false_eq_true]; simp [he]
    | true =>
      refine does_run (v := .bool !A.isNone) (w' := w) ?_ (c.pure ⟨!A.isNone, rfl, fun _ => trivial, fun hb => hA (by simpa using hb)⟩)
      unfold execOp; simp only [ho, e1, hy, binOp, eqGuard, if_true]; simp [he]
  · cases hT
theorem opx_ok (hC : ∀ e ∈ C, Con P e) (hlh : ∀ l ob, lh l = some ob → hp l = some ob) {x : XOp} {args : List XA} {avs : List AV} {p : Prop} {eff : Eff} (hchk : opChk P o.op x args = true) (hv : AVRs P hp ψ w (Mu M hp ψ) avs (args.map fun z => a.eval z.opnd))
    (hf : fr ∉ AV.locsL avs) (hx : x ≠ .pick) (h : opx C lh fr x avs = some (p, eff)) (hp' : p) (c : Ctx P B M hp ψ w fr) : Does P o a w (OpPost P B M hp ψ w fr eff) := by
  cases ho : o.op <;> rw [ho] at hchk <;> cases x <;> (try (simp [opChk] at hchk; done))
  case pick.pick => exact absurd rfl hx
  case move.mv X =>
    cases args with
    | nil => simp [opChk] at hchk
    | cons z0 args =>
    cases args with
    | cons _ _ => simp [opChk] at hchk
    | nil =>
    simp only [opChk, Bool.and_eq_true, beq_iff_eq, bne_iff_ne] at hchk
    simp only [List.map_cons, List.map_nil] at hv
    obtain ⟨x, rfl, q⟩ := avs1 hv
    obtain ⟨e, _⟩ := opOk_eq hchk
    simp only [opx, Option.some.injEq, Prod.mk.injEq] at h
    obtain ⟨_, rfl⟩ := h
    exact does_run (v := a.eval X) (w' := w) (by unfold execOp; simp only [ho]; rfl) (c.pure (by rw [e]; exact q))
  case move.nilrow X e t =>
    cases args with
    | cons _ _ => simp [opChk] at hchk
    | nil =>
    simp only [opChk, Bool.and_eq_true, beq_iff_eq, bne_iff_ne] at hchk
    simp only [List.map_cons, List.map_nil] at hv
    obtain rfl := avs0 hv
    simp only [opx, Option.some.injEq, Prod.mk.injEq] at h
    obtain ⟨_, rfl⟩ := h
    exact nilrow_ok (.inl ho) (isNil_eq hchk) c
  case assign.mv X =>
    cases args with
    | nil => simp [opChk] at hchk
    | cons z0 args =>
    cases args with
    | cons _ _ => simp [opChk] at hchk
    | nil =>
    simp only [opChk, Bool.and_eq_true, beq_iff_eq, bne_iff_ne] at hchk
    simp only [List.map_cons, List.map_nil] at hv
    obtain ⟨x, rfl, q⟩ := avs1 hv
    obtain ⟨e, _⟩ := opOk_eq hchk
    simp only [opx, Option.some.injEq, Prod.mk.injEq] at h
    obtain ⟨_, rfl⟩ := h
    exact does_run (v := a.eval X) (w' := w) (by unfold execOp; simp only [ho]; rfl) (c.pure (by rw [e]; exact q))
  case assign.nilrow X e t =>
    cases args with
    | cons _ _ => simp [opChk] at hchk
    | nil =>
    simp only [opChk, Bool.and_eq_true, beq_iff_eq, bne_iff_ne] at hchk
    simp only [List.map_cons, List.map_nil] at hv
    obtain rfl := avs0 hv
    simp only [opx, Option.some.injEq, Prod.mk.injEq] at h
    obtain ⟨_, rfl⟩ := h
    exact nilrow_ok (.inr ho) (isNil_eq hchk) c
  case alloc.alloc T T2 t =>
    cases args with
    | cons _ _ => simp [opChk] at hchk
    | nil =>
    simp only [opChk, Bool.and_eq_true, beq_iff_eq, bne_iff_ne] at hchk
    simp only [List.map_cons, List.map_nil] at hv
    obtain rfl := avs0 hv
    obtain ⟨e, h1⟩ := hchk
    subst e
    simp only [opx, Option.some.injEq, Prod.mk.injEq] at h
    obtain ⟨_, rfl⟩ := h
    exact alloc_ok ho h1 c
  case alloc.allocz T T2 m =>
    cases args with
    | cons _ _ => simp [opChk] at hchk
    | nil =>
    simp only [opChk, Bool.and_eq_true, beq_iff_eq, bne_iff_ne] at hchk
    simp only [List.map_cons, List.map_nil] at hv
    obtain rfl := avs0 hv
    obtain ⟨e, h1⟩ := hchk
    subst e
    simp only [opx, Option.some.injEq, Prod.mk.injEq] at h
    obtain ⟨_, rfl⟩ := h
    exact allocz_ok ho h1 c
  case box.box T X T2 =>
    cases args with
    | nil => simp [opChk] at hchk
    | cons z0 args =>
    cases args with
    | cons _ _ => simp [opChk] at hchk
    | nil =>
    simp only [opChk, Bool.and_eq_true, beq_iff_eq, bne_iff_ne] at hchk
    simp only [List.map_cons, List.map_nil] at hv
    obtain ⟨x, rfl, q⟩ := avs1 hv
    obtain ⟨e, h1⟩ := hchk
    subst e
    obtain ⟨e, _⟩ := opOk_eq h1
    simp only [opx, Option.map_eq_some_iff, Prod.mk.injEq] at h
    obtain ⟨cs, hcs, _, rfl⟩ := h
    rw [← e] at q
    exact box_ok ho hlh q (by simpa [AV.locsL] using hf) hcs c
  case load.load T X t =>
    cases args with
    | nil => simp [opChk] at hchk
    | cons z0 args =>
    cases args with
    | cons _ _ => simp [opChk] at hchk
    | nil =>
    simp only [opChk, Bool.and_eq_true, beq_iff_eq, bne_iff_ne] at hchk
    simp only [List.map_cons, List.map_nil] at hv
    obtain ⟨x, rfl, q⟩ := avs1 hv
    obtain ⟨h1, h2⟩ := hchk
    obtain ⟨e, _⟩ := opOk_eq h2
    simp only [opx, Option.map_eq_some_iff, Prod.mk.injEq] at h
    obtain ⟨y, hy, rfl, rfl⟩ := h
    rw [← e] at q
    exact load_ok ho h1 hlh q hy hp' c
  case store.store T X Y t =>
    cases args with
    | nil => simp [opChk] at hchk
    | cons z0 args =>
    cases args with
    | nil => simp [opChk] at hchk
    | cons z1 args =>
    cases args with
    | cons _ _ => simp [opChk] at hchk
    | nil =>
    simp only [opChk, Bool.and_eq_true, beq_iff_eq, bne_iff_ne] at hchk
    simp only [List.map_cons, List.map_nil] at hv
    obtain ⟨x, y, rfl, q, q2⟩ := avs2 hv
    obtain ⟨⟨h1, h2⟩, h3⟩ := hchk
    obtain ⟨e, _⟩ := opOk_eq h2
    obtain ⟨e2, _⟩ := opOk_eq h3
    simp only [opx] at h
    rw [← e] at q
    rw [← e2] at q2
    simp only [AV.locsL, List.append_nil, List.mem_append, not_or] at hf
    exact store_ok ho h1 hlh q q2 hf.2 h hp' c
  case nilCheck.nilck X =>
    cases args with
    | nil => simp [opChk] at hchk
    | cons z0 args =>
    cases args with
    | cons _ _ => simp [opChk] at hchk
    | nil =>
    simp only [opChk, Bool.and_eq_true, beq_iff_eq, bne_iff_ne] at hchk
    simp only [List.map_cons, List.map_nil] at hv
    obtain ⟨x, rfl, q⟩ := avs1 hv
    obtain ⟨e, _⟩ := opOk_eq hchk
    rw [← e] at q
    exact nilck_ok ho hlh q h c
  case binOp.bin op T X Y ty op2 =>
    cases args with
    | nil => simp [opChk] at hchk
    | cons z0 args =>
    cases args with
    | nil => simp [opChk] at hchk
    | cons z1 args =>
    cases args with
    | cons _ _ => simp [opChk] at hchk
    | nil =>
    simp only [opChk, Bool.and_eq_true, beq_iff_eq, bne_iff_ne] at hchk
    simp only [List.map_cons, List.map_nil] at hv
    obtain ⟨x, y, rfl, q, q2⟩ := avs2 hv
    obtain ⟨⟨e0, h1⟩, h2⟩ := hchk
    subst e0
    obtain ⟨e, _⟩ := opOk_eq h1
    obtain ⟨e2, _⟩ := opOk_eq h2
    simp only [opx, Option.map_eq_some_iff, Prod.mk.injEq] at h
    obtain ⟨r, hr, rfl, rfl⟩ := h
    rw [← e] at q
    rw [← e2] at q2
    exact bin_ok ho q q2 hr hp' c
  case makeMap.mkmap T r k t =>
    cases r with
    | some _ => simp [opChk] at hchk
    | none =>
    cases args with
    | cons _ _ => simp [opChk] at hchk
    | nil =>
    simp only [opChk] at hchk
    simp only [List.map_nil] at hv
    obtain rfl := avs0 hv
    simp only [opx, Option.some.injEq, Prod.mk.injEq] at h
    obtain ⟨_, rfl⟩ := h
    exact mkmap_ok ho c
  case lookup.mapget T X I ok' k t ok =>
    cases args with
    | nil => simp [opChk] at hchk
    | cons z0 args =>
    cases args with
    | nil => simp [opChk] at hchk
    | cons z1 args =>
    cases args with
    | cons _ _ => simp [opChk] at hchk
    | nil =>
    simp only [opChk, Bool.and_eq_true, beq_iff_eq] at hchk
    simp only [List.map_cons, List.map_nil] at hv
    obtain ⟨x, y, rfl, q, q2⟩ := avs2 hv
    obtain ⟨⟨⟨h1, h2⟩, h3⟩, rfl⟩ := hchk
    obtain ⟨e, _⟩ := opOk_eq h1
    obtain ⟨e2, _⟩ := opOk_eq h2
    simp only [opx] at h
    rw [← e] at q
    rw [← e2] at q2
    split at h
    · rename_i l xs hm
      simp only [Option.map_eq_some_iff, Prod.mk.injEq] at h
      obtain ⟨i, hi, _, rfl⟩ := h
      exact mapget_ok ho h3 hlh q q2 hm hi c
    · cases h
  case mapUpdate.mapset T X I Y k t =>
    cases args with
    | nil => simp [opChk] at hchk
    | cons z0 args =>
    cases args with
    | nil => simp [opChk] at hchk
    | cons z1 args =>
    cases args with
    | nil => simp [opChk] at hchk
    | cons z2 args =>
    cases args with
    | cons _ _ => simp [opChk] at hchk
    | nil =>
    simp only [opChk, Bool.and_eq_true] at hchk
    simp only [List.map_cons, List.map_nil] at hv
    obtain ⟨⟨⟨h1, h2⟩, h3⟩, h4⟩ := hchk
    exact mapset_all (.inl ho) h1 h2 h3 h4 hlh hv h c
  case insert.mapset T X I Y k t =>
    cases args with
    | nil => simp [opChk] at hchk
    | cons z0 args =>
    cases args with
    | nil => simp [opChk] at hchk
    | cons z1 args =>
    cases args with
    | nil => simp [opChk] at hchk
    | cons z2 args =>
    cases args with
    | cons _ _ => simp [opChk] at hchk
    | nil =>
    simp only [opChk, Bool.and_eq_true] at hchk
    simp only [List.map_cons, List.map_nil] at hv
    obtain ⟨⟨⟨h1, h2⟩, h3⟩, h4⟩ := hchk
    exact mapset_all (.inr ho) h1 h2 h3 h4 hlh hv h c
  case range.mrange T X k t =>
    cases args with
    | nil => simp [opChk] at hchk
    | cons z0 args =>
    cases args with
    | cons _ _ => simp [opChk] at hchk
    | nil =>
    simp only [opChk, Bool.and_eq_true] at hchk
    simp only [List.map_cons, List.map_nil] at hv
    obtain ⟨x, rfl, q⟩ := avs1 hv
    obtain ⟨h1, h2⟩ := hchk
    obtain ⟨e, _⟩ := opOk_eq h1
    rw [← e] at q
    simp only [opx, Option.map_eq_some_iff, Prod.mk.injEq] at h
    obtain ⟨⟨d, ls⟩, hy, rfl, rfl⟩ := h
    exact mrange_ok ho h2 hlh q hy c
  case entry.entry X =>
    cases args with
    | nil => simp [opChk] at hchk
    | cons z0 args =>
    cases args with
    | cons _ _ => simp [opChk] at hchk
    | nil =>
    simp only [opChk] at hchk
    simp only [List.map_cons, List.map_nil] at hv
    obtain ⟨x, rfl, q⟩ := avs1 hv
    obtain ⟨e, _⟩ := opOk_eq hchk
    rw [← e] at q
    simp only [opx] at h
    split at h
    · split at h
      · rename_i hl
        simp only [Option.some.injEq, Prod.mk.injEq] at h
        obtain ⟨rfl, rfl⟩ := h
        exact entry_ok ho hlh q hl c
      · cases h
    · cases h
  case call.mapdel cl k t =>
    obtain ⟨cal, As, ts⟩ := cl
    cases cal <;> (try (simp [opChk] at hchk; done))
    rename_i bb
    cases bb <;> (try (simp [opChk] at hchk; done))
    cases args with
    | nil => simp [opChk] at hchk
    | cons z0 args =>
    cases args with
    | nil => simp [opChk] at hchk
    | cons z1 args =>
    cases args with
    | cons _ _ => simp [opChk] at hchk
    | nil =>
    simp only [opChk, Bool.and_eq_true] at hchk
    simp only [List.map_cons, List.map_nil] at hv
    obtain ⟨x, y, rfl, q, q2⟩ := avs2 hv
    obtain ⟨h1, h2⟩ := hchk
    have hm := opsOk_eq h1
    obtain ⟨As⟩ := As
    simp only [List.map_cons, List.map_nil] at hm
    subst hm
    split at h2 <;> (try (cases h2; done))
    rename_i T hts
    simp only [opx] at h
    split at h
    · rename_i l xs hmo
      simp only [Option.map_eq_some_iff, Prod.mk.injEq] at h
      obtain ⟨i, hi, _, rfl⟩ := h
      exact mapdel_ok ho hts h2 hlh q q2 hmo hi c
    · cases h
  case binOp.isnil op T X Y ty neg t =>
    cases args with
    | nil => simp [opChk] at hchk
    | cons z0 args =>
    cases args with
    | cons _ _ => simp [opChk] at hchk
    | nil =>
    simp only [opChk, Bool.and_eq_true, beq_iff_eq, bne_iff_ne] at hchk
    simp only [List.map_cons, List.map_nil] at hv
    obtain ⟨x, rfl, q⟩ := avs1 hv
    obtain ⟨⟨⟨e0, h1⟩, h2⟩, h3⟩ := hchk
    obtain ⟨e, _⟩ := opOk_eq h1
    simp only [opx, Option.map_eq_some_iff, Prod.mk.injEq] at h
    obtain ⟨⟨xs, ls⟩, hr, _, rfl⟩ := h
    rw [← e] at q
    exact isnil_ok ho e0 h2 h3 hlh q hr c
  case binOp.beq op T X Y ty neg t =>
    cases args with
    | nil => simp [opChk] at hchk
    | cons z0 args =>
    cases args with
    | nil => simp [opChk] at hchk
    | cons z1 args =>
    cases args with
    | cons _ _ => simp [opChk] at hchk
    | nil =>
    simp only [opChk, Bool.and_eq_true, beq_iff_eq, bne_iff_ne] at hchk
    simp only [List.map_cons, List.map_nil] at hv
    obtain ⟨x, y, rfl, q, q2⟩ := avs2 hv
    obtain ⟨⟨⟨e0, h1⟩, h2⟩, h3⟩ := hchk
    obtain ⟨e, _⟩ := opOk_eq h1
    obtain ⟨e2, _⟩ := opOk_eq h2
    simp only [opx, Option.map_eq_some_iff, Prod.mk.injEq] at h
    obtain ⟨r, hr, _, rfl⟩ := h
    rw [← e] at q
    rw [← e2] at q2
    exact beq_ok ho e0 h3 q q2 hr c
  case binOp.steq op T X Y ty neg t =>
    cases args with
    | nil => simp [opChk] at hchk
    | cons z0 args =>
    cases args with
    | nil => simp [opChk] at hchk
    | cons z1 args =>
    cases args with
    | cons _ _ => simp [opChk] at hchk
    | nil =>
    simp only [opChk, Bool.and_eq_true, beq_iff_eq, bne_iff_ne] at hchk
    simp only [List.map_cons, List.map_nil] at hv
    obtain ⟨x, y, rfl, q, q2⟩ := avs2 hv
    obtain ⟨⟨⟨⟨⟨e0, h1⟩, h2⟩, h3⟩, h4⟩, h5⟩ := hchk
    obtain ⟨e, _⟩ := opOk_eq h1
    obtain ⟨e2, _⟩ := opOk_eq h2
    simp only [opx, Option.map_eq_some_iff, Prod.mk.injEq] at h
    obtain ⟨r, hr, _, rfl⟩ := h
    rw [← e] at q
    rw [← e2] at q2
    exact steq_ok ho e0 h3 h4 (by simpa using h5) hlh q q2 hr c
  case unOp.not op T X =>
    cases args with
    | nil => simp [opChk] at hchk
    | cons z0 args =>
    cases args with
    | cons _ _ => simp [opChk] at hchk
    | nil =>
    cases op <;> (try (simp [opChk] at hchk; done))
    simp only [opChk, Bool.and_eq_true, beq_iff_eq, bne_iff_ne] at hchk
    simp only [List.map_cons, List.map_nil] at hv
    obtain ⟨x, rfl, q⟩ := avs1 hv
    obtain ⟨e, _⟩ := opOk_eq hchk
    rw [← e] at q
    simp only [opx, Option.map_eq_some_iff, Prod.mk.injEq] at h
    obtain ⟨b, hb, _, rfl⟩ := h
    obtain rfl := avBool_some hb
    exact does_run (v := .bool (!b)) (w' := w) (by unfold execOp; simp [ho, avr_bool q, Op.unary]) (c.pure bool_avr)
  case unOp.neg op T X =>
    cases args with
    | nil => simp [opChk] at hchk
    | cons z0 args =>
    cases args with
    | cons _ _ => simp [opChk] at hchk
    | nil =>
    cases op <;> (try (simp [opChk] at hchk; done))
    simp only [opChk, Bool.and_eq_true, beq_iff_eq, bne_iff_ne] at hchk
    simp only [List.map_cons, List.map_nil] at hv
    obtain ⟨x, rfl, q⟩ := avs1 hv
    obtain ⟨e, _⟩ := opOk_eq hchk
    rw [← e] at q
    simp only [opx, Option.map_eq_some_iff, Prod.mk.injEq] at h
    obtain ⟨⟨k, n⟩, hb, _, rfl⟩ := h
    obtain rfl := avIntK_some hb
    exact does_run (v := .int k (k.wrap (0 - n))) (w' := w) (by unfold execOp; simp [ho, (avr_int q).1, Op.unary, Op.intArith]) (c.pure (int_avr (wrap_range _ _)))
  case convert.conv S D X k =>
    cases args with
    | nil => simp [opChk] at hchk
    | cons z0 args =>
    cases args with
    | cons _ _ => simp [opChk] at hchk
    | nil =>
    simp only [opChk, Bool.and_eq_true, beq_iff_eq, bne_iff_ne] at hchk
    simp only [List.map_cons, List.map_nil] at hv
    obtain ⟨x, rfl, q⟩ := avs1 hv
    obtain ⟨⟨h1, h2⟩, h3⟩ := hchk
    obtain ⟨e, _⟩ := opOk_eq h1
    rw [← e] at q
    simp only [opx, Option.map_eq_some_iff, Prod.mk.injEq] at h
    obtain ⟨n, hb, _, rfl⟩ := h
    obtain ⟨k0, rfl⟩ := avInt_some hb
    split at h2 <;> (try (cases h2; done))
    rename_i hS
    split at h3 <;> (try (cases h3; done))
    rename_i hD
    simp only [beq_iff_eq] at h3
    subst h3
    exact does_run (v := .int k (k.wrap n)) (w' := w) (by unfold execOp; simp [ho, (avr_int q).1, convert, run_underlying hS, run_underlying hD, Conv.intToInt]) (c.pure (int_avr (wrap_range _ _)))
  case fieldAddr.faddr T X f off t =>
    cases args with
    | nil => simp [opChk] at hchk
    | cons z0 args =>
    cases args with
    | cons _ _ => simp [opChk] at hchk
    | nil =>
    simp only [opChk, Bool.and_eq_true, beq_iff_eq, bne_iff_ne] at hchk
    simp only [List.map_cons, List.map_nil] at hv
    obtain ⟨x, rfl, q⟩ := avs1 hv
    obtain ⟨h1, h2⟩ := hchk
    obtain ⟨e, _⟩ := opOk_eq h1
    rw [← e] at q
    simp only [opx, Option.map_eq_some_iff, Prod.mk.injEq] at h
    obtain ⟨y, hy, _, rfl⟩ := h
    exact faddr_ok ho h2 hlh q hy c
  case field.field T X f off t =>
    cases args with
    | nil => simp [opChk] at hchk
    | cons z0 args =>
    cases args with
    | cons _ _ => simp [opChk] at hchk
    | nil =>
    simp only [opChk, Bool.and_eq_true, beq_iff_eq, bne_iff_ne] at hchk
    simp only [List.map_cons, List.map_nil] at hv
    obtain ⟨x, rfl, q⟩ := avs1 hv
    obtain ⟨h1, h2⟩ := hchk
    obtain ⟨e, _⟩ := opOk_eq h1
    rw [← e] at q
    simp only [opx, Option.map_eq_some_iff, Prod.mk.injEq] at h
    obtain ⟨y, hy, _, rfl⟩ := h
    exact field_ok ho h2 q hy c
  case indexAddr.iaddr T X Y t =>
    cases args with
    | nil => simp [opChk] at hchk
    | cons z0 args =>
    cases args with
    | nil => simp [opChk] at hchk
    | cons z1 args =>
    cases args with
    | cons _ _ => simp [opChk] at hchk
    | nil =>
    simp only [opChk, Bool.and_eq_true, beq_iff_eq, bne_iff_ne] at hchk
    simp only [List.map_cons, List.map_nil] at hv
    obtain ⟨x, y, rfl, q, q2⟩ := avs2 hv
    obtain ⟨⟨h1, h2⟩, h3⟩ := hchk
    obtain ⟨e, _⟩ := opOk_eq h1
    obtain ⟨e2, _⟩ := opOk_eq h2
    rw [← e] at q
    rw [← e2] at q2
    simp only [opx, Option.bind_eq_some_iff, Option.map_eq_some_iff, Prod.mk.injEq] at h
    obtain ⟨i, hi, r, hr, rfl, rfl⟩ := h
    obtain ⟨k0, rfl⟩ := avInt_some hi
    exact iaddr_ok ho h3 hlh q q2 hr hp' c
  case makeSlice.mkarr T X Y e0 bytes =>
    cases args with
    | nil => simp [opChk] at hchk
    | cons z0 args =>
    cases args with
    | nil => simp [opChk] at hchk
    | cons z1 args =>
    cases args with
    | cons _ _ => simp [opChk] at hchk
    | nil =>
    simp only [opChk, Bool.and_eq_true, beq_iff_eq, bne_iff_ne] at hchk
    simp only [List.map_cons, List.map_nil] at hv
    obtain ⟨x, y, rfl, q, q2⟩ := avs2 hv
    obtain ⟨⟨⟨⟨⟨h1, h2⟩, h3⟩, h4⟩, h5⟩, h6⟩ := hchk
    obtain ⟨e, _⟩ := opOk_eq h1
    obtain ⟨e2, _⟩ := opOk_eq h2
    rw [← e] at q
    rw [← e2] at q2
    simp only [opx, Option.bind_eq_some_iff, Option.map_eq_some_iff, Prod.mk.injEq] at h
    obtain ⟨n, hn, m, hm, rfl, rfl⟩ := h
    obtain ⟨k0, rfl⟩ := avInt_some hn
    obtain ⟨k1, rfl⟩ := avInt_some hm
    exact mkarr_ok ho h3 h4 h5 h6 q q2 hp' c
  case makeSlice.mkslice T X Y e0 t bytes =>
    cases args with
    | nil => simp [opChk] at hchk
    | cons z0 args =>
    cases args with
    | nil => simp [opChk] at hchk
    | cons z1 args =>
    cases args with
    | cons _ _ => simp [opChk] at hchk
    | nil =>
    simp only [opChk, Bool.and_eq_true, beq_iff_eq, bne_iff_ne] at hchk
    simp only [List.map_cons, List.map_nil] at hv
    obtain ⟨x, y, rfl, q, q2⟩ := avs2 hv
    obtain ⟨⟨⟨⟨⟨h1, h2⟩, h3⟩, h4⟩, h5⟩, h6⟩ := hchk
    obtain ⟨e, _⟩ := opOk_eq h1
    obtain ⟨e2, _⟩ := opOk_eq h2
    rw [← e] at q
    rw [← e2] at q2
    simp only [opx, Option.bind_eq_some_iff, Option.map_eq_some_iff, Prod.mk.injEq] at h
    obtain ⟨n, hn, m, hm, rfl, rfl⟩ := h
    obtain ⟨k0, rfl⟩ := avInt_some hn
    obtain ⟨k1, rfl⟩ := avInt_some hm
    exact mkslice_ok ho h3 h4 h5 h6 q q2 hp' c
  case extract.extract X j i =>
    cases args with
    | nil => simp [opChk] at hchk
    | cons z0 args =>
    cases args with
    | cons _ _ => simp [opChk] at hchk
    | nil =>
    simp only [opChk, Bool.and_eq_true, beq_iff_eq, bne_iff_ne] at hchk
    simp only [List.map_cons, List.map_nil] at hv
    obtain ⟨x, rfl, q⟩ := avs1 hv
    obtain ⟨e0, h1⟩ := hchk
    subst e0
    obtain ⟨e, _⟩ := opOk_eq h1
    rw [← e] at q
    simp only [opx, Option.map_eq_some_iff, Prod.mk.injEq] at h
    obtain ⟨y, hy, _, rfl⟩ := h
    unfold extx at hy
    split at hy <;> (try (cases hy; done))
    obtain ⟨us, eX, hu⟩ := q
    obtain ⟨v, hv1, hv2⟩ := hu.at hy
    have hv1' : us[i]? = some v := by simpa using hv1
    exact does_run (v := v) (w' := w) (by unfold execOp; simp [ho, eX, Instr.extract, hv1']) (c.pure hv2)
  case build.build T parts t ps =>
    simp only [opChk, Bool.and_eq_true, beq_iff_eq, bne_iff_ne] at hchk
    obtain ⟨⟨⟨⟨h1, h2⟩, h3⟩, h4⟩, h5⟩ := hchk
    have hm := opsOk_eq h1
    rw [show (fun z : XA => a.eval z.opnd) = a.eval ∘ XA.opnd from rfl, ← List.map_map, ← hm] at hv
    simp only [opx, Option.map_eq_some_iff, Prod.mk.injEq] at h
    obtain ⟨cs, hcs, _, rfl⟩ := h
    exact build_ok ho h2 h3 h4 hlh hv hcs c
  case buildSlice.bslice T n parts e0 t n2 idx =>
    simp only [opChk, Bool.and_eq_true, beq_iff_eq, bne_iff_ne, decide_eq_true_eq] at hchk
    obtain ⟨⟨⟨⟨⟨⟨e, h1⟩, h2⟩, h3⟩, h4⟩, h5⟩, h6⟩ := hchk
    subst e h2
    have hm := opsOk_eq h1
    rw [show (fun z : XA => a.eval z.opnd) = a.eval ∘ XA.opnd from rfl, ← List.map_map, ← hm] at hv
    simp only [opx, Option.map_eq_some_iff, Prod.mk.injEq] at h
    obtain ⟨⟨xs, ls⟩, hx, _, rfl⟩ := h
    exact bslice_ok ho h3 h4 h5 h6 hlh hv hx c
  case makeFunc.mkfn fn first cap f =>
    cases fn <;> (try (simp [opChk] at hchk; done))
    rename_i g
    simp only [opChk, Bool.and_eq_true, beq_iff_eq] at hchk
    obtain ⟨⟨⟨e, h0⟩, h1⟩, _⟩ := hchk
    subst e
    have hm := opsOk_eq h1
    rw [show (fun z : XA => a.eval z.opnd) = a.eval ∘ XA.opnd from rfl, ← List.map_map, ← hm] at hv
    simp only [opx, Option.some.injEq, Prod.mk.injEq] at h
    obtain ⟨_, rfl⟩ := h
    have h0' : first = #[] := by simpa using h0
    subst h0'
    refine does_run (v := .func (.func f) #[] (cap.map a.eval)) (w' := w) (by unfold execOp; simp [ho, Instr.makeFunc]) (c.pure (av := .clo f avs) ⟨_, rfl, ?_⟩)
    simpa using hv
  case makeFunc.mkbnd fn first cap f =>
    cases fn <;> (try (simp [opChk] at hchk; done))
    rename_i g
    simp only [opChk, Bool.and_eq_true, beq_iff_eq] at hchk
    obtain ⟨⟨e, h0⟩, h1⟩ := hchk
    subst e
    have hm := opsOk_eq h1
    rw [show (fun z : XA => a.eval z.opnd) = a.eval ∘ XA.opnd from rfl, ← List.map_map, ← hm] at hv
    simp only [opx, Option.some.injEq, Prod.mk.injEq] at h
    obtain ⟨_, rfl⟩ := h
    have h0' : cap = #[] := by simpa using h0
    subst h0'
    refine does_run (v := .func (.func f) (first.map a.eval) #[]) (w' := w) (by unfold execOp; simp [ho, Instr.makeFunc]) (c.pure (av := .bnd f avs) ⟨_, rfl, ?_⟩)
    simpa using hv
  case call.call cl f =>
    obtain ⟨cal, As, ts⟩ := cl
    cases cal <;> (try (simp [opChk] at hchk; done))
    rename_i Y
    cases Y <;> (try (simp [opChk] at hchk; done))
    rename_i g
    simp only [opChk, Bool.and_eq_true, beq_iff_eq] at hchk
    obtain ⟨⟨e, h1⟩, _⟩ := hchk
    subst e
    have hm := opsOk_eq h1
    rw [show (fun z : XA => a.eval z.opnd) = a.eval ∘ XA.opnd from rfl, ← List.map_map, ← hm] at hv
    simp only [opx] at h
    obtain ⟨hfo, hcl⟩ := call_ok hC hlh hv h hp' c
    refine callf_ok ho (cap := #[]) rfl hfo ?_
    rw [show As.map a.eval ++ #[] = (As.toList.map a.eval).toArray by apply Array.ext'; simp]
    exact hcl
  case call.callv cl =>
    obtain ⟨cal, As, ts⟩ := cl
    cases cal <;> (try (simp [opChk] at hchk; done))
    rename_i Y
    cases args with
    | nil => simp [opChk] at hchk
    | cons z args =>
    simp only [opChk, Bool.and_eq_true] at hchk
    obtain ⟨h0, h1⟩ := hchk
    obtain ⟨e, _⟩ := opOk_eq h0
    simp only [List.map_cons] at hv
    obtain ⟨x, r, rfl, q, hv2⟩ := avsS hv
    have hm := opsOk_eq h1
    rw [show (fun z : XA => a.eval z.opnd) = a.eval ∘ XA.opnd from rfl, ← List.map_map, ← hm] at hv2
    rw [← e] at q
    simp only [opx] at h
    unfold callvx at h
    split at h
    · rename_i f cap
      obtain ⟨us, eY, qc⟩ := q
      obtain ⟨hfo, hcl⟩ := call_ok hC hlh (hv2.append qc) h hp' c
      refine callf_ok ho eY hfo ?_
      rw [show As.map a.eval ++ us = (As.toList.map a.eval ++ us.toList).toArray by apply Array.ext'; simp]
      exact hcl
    · rename_i ty r' F
      unfold fn1x at h
      split at h
      · simp only [Option.map_eq_some_iff, Prod.mk.injEq] at h
        obtain ⟨⟨d, ls⟩, hd, _, rfl⟩ := h
        exact call1_ok ho hlh q hv2 hd c
      · cases h
    · rename_i ty tz r' F
      unfold fn2x at h
      split at h
      · simp only [Option.bind_eq_some_iff, Option.map_eq_some_iff, Prod.mk.injEq] at h
        obtain ⟨⟨d, ls⟩, hd, ⟨d2, ls2⟩, hd2, _, rfl⟩ := h
        exact call2_ok ho hlh q hv2 hd hd2 c
      · cases h
    · cases h
  case call.len cl str =>
    obtain ⟨cal, As, ts⟩ := cl
    cases cal <;> (try (simp [opChk] at hchk; done))
    rename_i bb
    cases bb <;> (try (simp [opChk] at hchk; done))
    cases args with
    | nil => simp [opChk] at hchk
    | cons z0 args =>
    cases args with
    | cons _ _ => simp [opChk] at hchk
    | nil =>
    simp only [opChk, Bool.and_eq_true, beq_iff_eq, bne_iff_ne] at hchk
    simp only [List.map_cons, List.map_nil] at hv
    obtain ⟨x, rfl, q⟩ := avs1 hv
    obtain ⟨h1, h2⟩ := hchk
    have hm := opsOk_eq h1
    obtain ⟨As⟩ := As
    simp only [List.map_cons, List.map_nil] at hm
    subst hm
    split at h2 <;> (try (cases h2; done))
    rename_i T hT
    simp only [opx, Option.map_eq_some_iff, Prod.mk.injEq] at h
    obtain ⟨n, hn, _, rfl⟩ := h
    exact len_ok ho hT h2 hlh q hn c
  case call.append cl e0 t bytes =>
    obtain ⟨cal, As, ts⟩ := cl
    cases cal <;> (try (simp [opChk] at hchk; done))
    rename_i bb
    cases bb <;> (try (simp [opChk] at hchk; done))
    cases args with
    | nil => simp [opChk] at hchk
    | cons z0 args =>
    cases args with
    | nil => simp [opChk] at hchk
    | cons z1 args =>
    cases args with
    | cons _ _ => simp [opChk] at hchk
    | nil =>
    simp only [opChk, Bool.and_eq_true, beq_iff_eq, bne_iff_ne] at hchk
    simp only [List.map_cons, List.map_nil] at hv
    obtain ⟨x, y, rfl, q, q2⟩ := avs2 hv
    obtain ⟨⟨⟨⟨⟨h1, h2⟩, h3⟩, h4⟩, h5⟩, h6⟩ := hchk
    have hm := opsOk_eq h1
    obtain ⟨As⟩ := As
    obtain ⟨ts⟩ := ts
    simp only [List.map_cons, List.map_nil] at hm
    subst hm
    split at h2 <;> (try (cases h2; done))
    rename_i T T' hT
    simp only [Bool.and_eq_true, beq_iff_eq] at h2
    obtain ⟨e, h2⟩ := h2
    subst e
    simp only at hT
    subst hT
    simp only [opx] at h
    exact append_ok ho h2 h3 h4 h5 h6 hlh q q2 h hp' c
  case call.copy cl e0 t =>
    obtain ⟨cal, As, ts⟩ := cl
    cases cal <;> (try (simp [opChk] at hchk; done))
    rename_i bb
    cases bb <;> (try (simp [opChk] at hchk; done))
    cases args with
    | nil => simp [opChk] at hchk
    | cons z0 args =>
    cases args with
    | nil => simp [opChk] at hchk
    | cons z1 args =>
    cases args with
    | cons _ _ => simp [opChk] at hchk
    | nil =>
    simp only [opChk, Bool.and_eq_true, beq_iff_eq, bne_iff_ne] at hchk
    simp only [List.map_cons, List.map_nil] at hv
    obtain ⟨x, y, rfl, q, q2⟩ := avs2 hv
    obtain ⟨⟨h1, h2⟩, h3⟩ := hchk
    have hm := opsOk_eq h1
    obtain ⟨As⟩ := As
    obtain ⟨ts⟩ := ts
    simp only [List.map_cons, List.map_nil] at hm
    subst hm
    split at h2 <;> (try (cases h2; done))
    rename_i T T' hT
    simp only [Bool.and_eq_true, beq_iff_eq] at h2
    obtain ⟨e, h2⟩ := h2
    subst e
    simp only at hT
    subst hT
    simp only [opx] at h
    exact copy_ok ho h2 h3 hlh q q2 h hp' c
  case call.min cl =>
    obtain ⟨cal, As, ts⟩ := cl
    cases cal <;> (try (simp [opChk] at hchk; done))
    rename_i bb
    cases bb <;> (try (simp [opChk] at hchk; done))
    cases args with
    | nil => simp [opChk] at hchk
    | cons z0 args =>
    cases args with
    | nil => simp [opChk] at hchk
    | cons z1 args =>
    cases args with
    | cons _ _ => simp [opChk] at hchk
    | nil =>
    simp only [opChk, Bool.and_eq_true, beq_iff_eq, bne_iff_ne] at hchk
    simp only [List.map_cons, List.map_nil] at hv
    obtain ⟨x, y, rfl, q, q2⟩ := avs2 hv
    have hm := opsOk_eq hchk
    obtain ⟨As⟩ := As
    simp only [List.map_cons, List.map_nil] at hm
    subst hm
    simp only [opx, minx, Option.bind_eq_some_iff] at h
    obtain ⟨⟨k, n⟩, hn, ⟨k', m⟩, hm, h⟩ := h
    obtain rfl := avIntK_some hn
    obtain rfl := avIntK_some hm
    split at h <;> (try (cases h; done))
    rename_i ek
    simp only at ek
    subst ek
    simp only [Option.some.injEq, Prod.mk.injEq] at h
    obtain ⟨_, rfl⟩ := h
    have q' := avr_int q
    have q2' := avr_int q2
    refine does_run (v := .int k (if m < n then m else n)) (w' := w) (by unfold execOp; simp [ho, resolve, invoke, builtin, Builtin.min_, Builtin.min2, q'.1, q2'.1]) (c.pure (int_avr ?_))
    simp only [Bool.false_eq_true, if_true, if_false]
    split
    · exact q2'.2
    · exact q'.2
  case call.max cl =>
    obtain ⟨cal, As, ts⟩ := cl
    cases cal <;> (try (simp [opChk] at hchk; done))
    rename_i bb
    cases bb <;> (try (simp [opChk] at hchk; done))
    cases args with
    | nil => simp [opChk] at hchk
    | cons z0 args =>
    cases args with
    | nil => simp [opChk] at hchk
    | cons z1 args =>
    cases args with
    | cons _ _ => simp [opChk] at hchk
    | nil =>
    simp only [opChk, Bool.and_eq_true, beq_iff_eq, bne_iff_ne] at hchk
    simp only [List.map_cons, List.map_nil] at hv
    obtain ⟨x, y, rfl, q, q2⟩ := avs2 hv
    have hm := opsOk_eq hchk
    obtain ⟨As⟩ := As
    simp only [List.map_cons, List.map_nil] at hm
    subst hm
    simp only [opx, minx, Option.bind_eq_some_iff] at h
    obtain ⟨⟨k, n⟩, hn, ⟨k', m⟩, hm, h⟩ := h
    obtain rfl := avIntK_some hn
    obtain rfl := avIntK_some hm
    split at h <;> (try (cases h; done))
    rename_i ek
    simp only at ek
    subst ek
    simp only [Option.some.injEq, Prod.mk.injEq] at h
    obtain ⟨_, rfl⟩ := h
    have q' := avr_int q
    have q2' := avr_int q2
    refine does_run (v := .int k (if n < m then m else n)) (w' := w) (by unfold execOp; simp [ho, resolve, invoke, builtin, Builtin.max_, Builtin.max2, q'.1, q2'.1]) (c.pure (int_avr ?_))
    simp only [Bool.false_eq_true, if_true, if_false]
    split
    · exact q2'.2
    · exact q'.2
  case slice.slice T X L H mx t lo hi own =>
    cases mx with
    | some _ => cases L <;> cases H <;> simp [opChk] at hchk
    | none =>
    cases L with
    | none =>
      cases H with
      | none =>
        cases args with
        | nil => simp [opChk] at hchk
        | cons z0 args =>
        cases args with
        | cons _ _ => simp [opChk] at hchk
        | nil =>
        simp only [opChk, Bool.and_eq_true, beq_iff_eq, bne_iff_ne] at hchk
        simp only [List.map_cons, List.map_nil] at hv
        obtain ⟨⟨⟨h1, h2⟩, h3⟩, h4⟩ := hchk
        obtain ⟨x, bs, rfl, q, hv2⟩ := avsS hv
        obtain ⟨e, _⟩ := opOk_eq h3
        rw [← e] at q
        simp only [opx] at h
        simp only [Bool.not_eq_true'] at h1 h2
        exact slicey_ok ho h4 hlh h1.symm h2.symm q hv2 h hp' c
      | some H =>
        cases args with
        | nil => simp [opChk] at hchk
        | cons z0 args =>
        cases args with
        | nil => simp [opChk] at hchk
        | cons z1 args =>
        cases args with
        | cons _ _ => simp [opChk] at hchk
        | nil =>
        simp only [opChk, Bool.and_eq_true, beq_iff_eq, bne_iff_ne] at hchk
        simp only [List.map_cons, List.map_nil] at hv
        obtain ⟨⟨⟨⟨h1, h2⟩, h3⟩, h5⟩, h4⟩ := hchk
        obtain ⟨x, bs, rfl, q, hv2⟩ := avsS hv
        obtain ⟨e, _⟩ := opOk_eq h3
        rw [← e] at q
        simp only [opx] at h
        obtain ⟨e2, _⟩ := opOk_eq h5
        rw [← e2] at hv2
        simp only [Bool.not_eq_true'] at h1 h2
        exact slicey_ok ho h4 hlh h1.symm h2.symm q hv2 h hp' c
    | some L =>
      cases H with
      | none =>
        cases args with
        | nil => simp [opChk] at hchk
        | cons z0 args =>
        cases args with
        | nil => simp [opChk] at hchk
        | cons z1 args =>
        cases args with
        | cons _ _ => simp [opChk] at hchk
        | nil =>
        simp only [opChk, Bool.and_eq_true, beq_iff_eq, bne_iff_ne] at hchk
        simp only [List.map_cons, List.map_nil] at hv
        obtain ⟨⟨⟨⟨h1, h2⟩, h3⟩, h5⟩, h4⟩ := hchk
        obtain ⟨x, bs, rfl, q, hv2⟩ := avsS hv
        obtain ⟨e, _⟩ := opOk_eq h3
        rw [← e] at q
        simp only [opx] at h
        obtain ⟨e2, _⟩ := opOk_eq h5
        rw [← e2] at hv2
        simp only [Bool.not_eq_true'] at h1 h2
        exact slicey_ok ho h4 hlh h1.symm h2.symm q hv2 h hp' c
      | some H =>
        cases args with
        | nil => simp [opChk] at hchk
        | cons z0 args =>
        cases args with
        | nil => simp [opChk] at hchk
        | cons z1 args =>
        cases args with
        | nil => simp [opChk] at hchk
        | cons z2 args =>
        cases args with
        | cons _ _ => simp [opChk] at hchk
        | nil =>
        simp only [opChk, Bool.and_eq_true, beq_iff_eq, bne_iff_ne] at hchk
        simp only [List.map_cons, List.map_nil] at hv
        obtain ⟨⟨⟨⟨⟨h1, h2⟩, h3⟩, h5⟩, h6⟩, h4⟩ := hchk
        obtain ⟨x, bs, rfl, q, hv2⟩ := avsS hv
        obtain ⟨e, _⟩ := opOk_eq h3
        rw [← e] at q
        simp only [opx] at h
        obtain ⟨e2, _⟩ := opOk_eq h5
        obtain ⟨e3, _⟩ := opOk_eq h6
        rw [← e2, ← e3] at hv2
        exact slicey_ok ho h4 hlh h1.symm h2.symm q hv2 h hp' c
end
end T
end Go.Proofs.Ytbbpiihbhdagnaa
