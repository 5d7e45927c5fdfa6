/- Typed abstract walk, part 15: a region in whatever order the tape draws. -/
import Derived.Test.YtbbpiihbhdagnaaT14
import Derived.OrdersHeld
namespace Go.Proofs.Ytbbpiihbhdagnaa
set_option linter.unusedVariables false
set_option linter.unusedSimpArgs false
open Go.RowKit
namespace T
abbrev St := (Nat → AV) × Hp
def Tr.app (t : Tr) (s : St) : St := (setF s.1 t.dst t.e.v, t.e.app s.2)
/-- The state behind the operations of E, in the order of the text. -/
def apE (E : Nat → Bool) : Nat → List Tr → St → St
  | _, [], s => s
  | k, t :: r, s => apE E (k + 1) r (if E k then t.app s else s)
theorem eff_same {e : Eff} {h : Hp} {l : Nat} (hl : l ∉ e.tch) : e.app h l = h l := by
  obtain ⟨v, ks, pt⟩ := e
  cases pt with
  | none => rw [app_none]; exact kill_not hl
  | some lo =>
    obtain ⟨l0, ob⟩ := lo
    simp only [Eff.tch, List.mem_cons, not_or] at hl
    rw [app_put, putHp_other _ _ hl.1, kill_not hl.2]
theorem eff_at {e : Eff} {h h' : Hp} {l : Nat} (hl : h l = h' l) : e.app h l = e.app h' l := by
  obtain ⟨v, ks, pt⟩ := e
  cases pt with
  | none => simp only [app_none, kill, hl]
  | some lo => obtain ⟨l0, ob⟩ := lo; simp only [app_put, putHp, kill, hl]
theorem eff_set {e : Eff} {h h' : Hp} {l : Nat} (hl : l ∈ e.tch) : e.app h l = e.app h' l := by
  obtain ⟨v, ks, pt⟩ := e
  cases pt with
  | none => simp only [Eff.tch] at hl; simp [app_none, kill, hl]
  | some lo =>
    obtain ⟨l0, ob⟩ := lo
    simp only [Eff.tch, List.mem_cons] at hl
    simp only [app_put, putHp, kill]
    split
    · rfl
    · rename_i hne; rw [if_pos (hl.resolve_left hne), if_pos (hl.resolve_left hne)]
theorem apE_tm {E E' : Nat → Bool} {t : Nat} : ∀ {trs : List Tr} {k : Nat} {s s' : St}, s.1 t = s'.1 t → (∀ j tr, trs[j]? = some tr → E (k + j) ≠ E' (k + j) → tr.dst ≠ some t) → (apE E k trs s).1 t = (apE E' k trs s').1 t
  | [], _, _, _, h, _ => h
  | tr :: r, k, s, s', h, hd => by
    simp only [apE]
    refine apE_tm ?_ fun j x hj hne => hd (j + 1) x (by simpa using hj) (by rwa [← Nat.add_assoc, Nat.add_right_comm])
    have h0 := hd 0 tr rfl
    simp only [Nat.add_zero] at h0
    have key : ∀ s s' : St, s.1 t = s'.1 t → (tr.app s).1 t = (tr.app s').1 t := fun s s' h => by
      unfold Tr.app setF
      cases tr.dst with
      | none => exact h
      | some d => simp only; split <;> simp [h]
    by_cases e : E k = E' k
    · rw [e]; split
      · exact key _ _ h
      · exact h
    · have hnd := h0 e
      have same : ∀ s : St, (tr.app s).1 t = s.1 t := fun s => by
        unfold Tr.app setF
        cases hdst : tr.dst with
        | none => rfl
        | some d => simp only; rw [if_neg (fun q => hnd (by rw [hdst, q]))]
      cases E k <;> cases E' k <;> simp [same, h]
theorem apE_hp {E E' : Nat → Bool} {l : Nat} : ∀ {trs : List Tr} {k : Nat} {s s' : St}, s.2 l = s'.2 l → (∀ j tr, trs[j]? = some tr → E (k + j) ≠ E' (k + j) → l ∉ tr.e.tch) → (apE E k trs s).2 l = (apE E' k trs s').2 l
  | [], _, _, _, h, _ => h
  | tr :: r, k, s, s', h, hd => by
    simp only [apE]
    refine apE_hp ?_ fun j x hj hne => hd (j + 1) x (by simpa using hj) (by rwa [← Nat.add_assoc, Nat.add_right_comm])
    have h0 := hd 0 tr rfl
    simp only [Nat.add_zero] at h0
    by_cases e : E k = E' k
    · rw [e]; split
      · exact eff_at h
      · exact h
    · have hnd := h0 e
      have same : ∀ s : St, (tr.app s).2 l = s.2 l := fun s => eff_same hnd
      cases E k <;> cases E' k <;> simp [same, h]
/-- Two operations that do not meet may change places. -/
def Comm (a b : Tr) : Prop := (∀ d, a.dst = some d → b.dst ≠ some d) ∧ ∀ l ∈ a.e.tch, l ∉ b.e.tch
theorem Comm.app {a b : Tr} (h : Comm a b) (s : St) : a.app (b.app s) = b.app (a.app s) := by
  unfold Tr.app
  refine Prod.ext ?_ ?_
  · funext t
    simp only [setF]
    cases ha : a.dst with
    | none => rfl
    | some d =>
      cases hb : b.dst with
      | none => rfl
      | some d' =>
        simp only
        by_cases e : t = d
        · subst e
          rw [if_pos rfl, if_neg (fun q => h.1 t ha (by rw [hb, q])), if_pos rfl]
        · rw [if_neg e]; split
          · rfl
          · simp [e]
  · funext l
    simp only
    by_cases e : l ∈ a.e.tch
    · rw [eff_same (h.2 l e)]
      exact eff_set e
    · rw [eff_same e]
      exact eff_at (eff_same e).symm
theorem apE_push {E : Nat → Bool} {t : Tr} : ∀ {trs : List Tr} {k : Nat} {s : St}, (∀ j tr, trs[j]? = some tr → E (k + j) = true → Comm t tr) → apE E k trs (t.app s) = t.app (apE E k trs s)
  | [], _, _, _ => rfl
  | tr :: r, k, s, h => by
    simp only [apE]
    have h0 := h 0 tr rfl
    simp only [Nat.add_zero] at h0
    rw [← apE_push fun j x hj hE => h (j + 1) x (by simpa using hj) (by rwa [← Nat.add_assoc, Nat.add_right_comm])]
    congr 1
    split
    · rename_i hE; exact ((h0 hE).app s).symm
    · rfl
theorem apE_insert {E : Nat → Bool} {i : Nat} {ti : Tr} : ∀ {trs : List Tr} {k : Nat} {s : St}, k ≤ i → trs[i - k]? = some ti → E i = false → (∀ j tr, i < k + j → trs[j]? = some tr → E (k + j) = true → Comm ti tr) →
    apE (fun j => E j || j == i) k trs s = ti.app (apE E k trs s)
  | [], k, s, _, h, _, _ => by simp at h
  | tr :: r, k, s, hk, h, hE, hc => by
    simp only [apE]
    by_cases e : k = i
    · subst e
      simp only [Nat.sub_self, List.getElem?_cons_zero, Option.some.injEq] at h
      subst h
      have hsame : ∀ (r : List Tr) (m : Nat) (s : St), k < m → apE (fun j => E j || j == k) m r s = apE E m r s := by
        intro r
        induction r with
        | nil => intros; rfl
        | cons x r ih =>
          intro m s hm
          simp only [apE]
          rw [ih (m + 1) _ (by omega)]
          congr 1
          have : (m == k) = false := by rw [beq_eq_false_iff_ne]; omega
          simp [this]
      rw [hsame r (k + 1) _ (by omega)]
      simp only [hE, beq_self_eq_true, Bool.or_true, if_true, Bool.false_eq_true, if_false]
      exact apE_push fun j x hj hEj => hc (j + 1) x (by omega) (by simpa using hj) (by rwa [← Nat.add_assoc, Nat.add_right_comm])
    · have hb : (k == i) = false := by rw [beq_eq_false_iff_ne]; exact e
      have hi : r[i - (k + 1)]? = some ti := by
        rw [show i - k = (i - (k + 1)) + 1 by omega] at h
        simpa using h
      simp only [hb, Bool.or_false]
      exact apE_insert (by omega) hi hE fun j x hij hj hEj => hc (j + 1) x (by omega) (by simpa using hj) (by rwa [← Nat.add_assoc, Nat.add_right_comm])
theorem apE_none : ∀ {trs : List Tr} {k : Nat} {s : St}, apE (fun _ => false) k trs s = s
  | [], _, _ => rfl
  | t :: r, k, s => by simp only [apE, Bool.false_eq_true, if_false]; exact apE_none
theorem apE_congr {E E' : Nat → Bool} : ∀ {trs : List Tr} {k : Nat} {s : St}, (∀ j, j < trs.length → E (k + j) = E' (k + j)) → apE E k trs s = apE E' k trs s
  | [], _, _, _ => rfl
  | t :: r, k, s, h => by
    simp only [apE]
    have := h 0 (by simp)
    simp only [Nat.add_zero] at this
    rw [this]
    exact apE_congr fun j hj => by have := h (j + 1) (by simpa using hj); rwa [← Nat.add_assoc, Nat.add_right_comm] at this
/-- What the run in the order of the text has shown of one operation. -/
def Good (C : List Ent) (nx : Nat) (s : St) (i : Nat) (x : XO) (t : Tr) : Prop :=
  ∃ p, gop C (restr s.2 t.R) t.fr (gvF s.1 x) x.op (x.args.map (avF s.1)) = some (p, t.e) ∧ p ∧ t.R = reachO x.op s.2 (x.args.map (avF s.1)) ∧ t.dst = x.dst ∧ t.fr = nx + i ∧ t.ast = x.ast ∧ effIn (t.fr :: (t.R ++ AV.locsL (x.args.map (avF s.1)))) t.e = true
theorem runD_good {C : List Ent} {P : Program} {n : Nat} {ops : Array Oper} : ∀ {xs : List XO} {os : List Oper} {st st' : AS} {p : Prop} {trs : List Tr}, runD C st xs = some (p, st', trs) → p → listChk P n ops os xs = true →
    trs.length = xs.length ∧ (∀ i x t, xs[i]? = some x → trs[i]? = some t → Good C st.nx (apE (fun j => decide (j < i)) 0 trs (tmG st.tm, look st.hp)) i x t) ∧
    (tmG st'.tm, look st'.hp) = apE (fun _ => true) 0 trs (tmG st.tm, look st.hp) ∧ st'.nx = st.nx + xs.length
  | [], os, st, st', p, trs, h, hp', hchk => by
    simp only [runD, Option.some.injEq, Prod.mk.injEq] at h
    obtain ⟨_, rfl, rfl⟩ := h
    exact ⟨rfl, fun i x t h => by simp at h, rfl, rfl⟩
  | x :: xs, os, st, st', p, trs, h, hp', hchk => by
    cases os with
    | nil => simp [listChk] at hchk
    | cons o os =>
    simp only [listChk, Bool.and_eq_true] at hchk
    obtain ⟨⟨⟨⟨h1, h2⟩, h3⟩, h4⟩, h5⟩ := hchk
    simp only [runD] at h
    split at h
    · cases h
    · rename_i p1 st1 t hst
      split at h
      · cases h
      · rename_i q st2 ts hrun
        simp only [Option.some.injEq, Prod.mk.injEq] at h
        obtain ⟨rfl, rfl, rfl⟩ := h
        unfold stepD at hst
        split at hst
        · cases hst
        · rename_i p2 e hg
          split at hst
          · rename_i hef
            simp only [Option.some.injEq, Prod.mk.injEq] at hst
            obtain ⟨rfl, rfl, rfl⟩ := hst
            obtain ⟨g1, g2, g3, g5⟩ := runD_good hrun hp'.2 h5
            simp only at g2 g3 g5
            rw [setT_get, look_app] at g2 g3
            have hav : ∀ zs : List XA, zs.map (XA.av st.tm) = zs.map (avF (tmG st.tm)) := fun zs => List.map_congr_left fun z _ => av_avF st.tm z
            refine ⟨by simp [g1], fun i x' t' hx ht => ?_, ?_, by rw [g5]; simp; omega⟩
            · cases i with
              | zero =>
                simp only [List.getElem?_cons_zero, Option.some.injEq] at hx ht
                subst hx ht
                have e0 : (fun j => decide (j < 0)) = fun _ => false := by funext j; simp
                rw [e0, apE_none]
                refine ⟨p2, ?_, hp'.1, by simp only [hav], rfl, rfl, rfl, by rw [← hav]; exact hef⟩
                rw [← gv_gvF, ← hav]; exact hg
              | succ i =>
                have := g2 i x' t' (by simpa using hx) (by simpa using ht)
                obtain ⟨p3, k1, k2, k3, k4, k5, k6, k7⟩ := this
                have e1 : apE (fun j => decide (j < i + 1)) 0 (⟨x.dst, e, reachO x.op (look st.hp) (x.args.map (XA.av st.tm)), st.nx, x.ast⟩ :: ts) (tmG st.tm, look st.hp) =
                    apE (fun j => decide (j < i)) 0 ts (setF (tmG st.tm) x.dst e.v, e.app (look st.hp)) := by
                  simp only [apE, Nat.zero_lt_succ, decide_true, if_true, Tr.app]
                  have shift : ∀ (r : List Tr) (k : Nat) (s : St), apE (fun j => decide (j < i + 1)) (k + 1) r s = apE (fun j => decide (j < i)) k r s := by
                    intro r
                    induction r with
                    | nil => intros; rfl
                    | cons y r ih => intro k s; simp only [apE, Nat.add_lt_add_iff_right]; exact ih _ _
                  exact shift ts 0 _
                rw [e1]
                exact ⟨p3, k1, k2, k3, k4, by rw [k5]; omega, k6, k7⟩
            · rw [g3]
              simp only [apE, if_true, Tr.app]
              have shift : ∀ (r : List Tr) (k m : Nat) (s : St), apE (fun _ => true) k r s = apE (fun _ => true) m r s := by
                intro r
                induction r with
                | nil => intros; rfl
                | cons y r ih => intro k m s; simp only [apE]; exact ih _ _ _
              exact shift ts 0 1 _
          · cases hst
section
variable {P : Program} {B : Nat} {M : Nat → Prop} {C : List Ent} {n : Nat} {w0 : Fix} {Q : Exit → Act → World → Prop} {ops : Array Oper}
theorem listChk_at : ∀ {os : List Oper} {xs : List XO}, listChk P n ops os xs = true → os.length = xs.length ∧ ∀ (i : Nat) (o : Oper) (x : XO), os[i]? = some o → xs[i]? = some x → xoChk P ops o x = true ∧ inRange n x.dst = true ∧ x.reads.all (· < n) = true ∧ x.args.all XA.okB = true
  | [], [], _ => ⟨rfl, fun i o x h => by simp at h⟩
  | o :: os, x :: xs, h => by
    simp only [listChk, Bool.and_eq_true] at h
    obtain ⟨⟨⟨⟨h1, h2⟩, h3⟩, h4⟩, h5⟩ := h
    obtain ⟨k1, k2⟩ := listChk_at h5
    refine ⟨by simp [k1], fun i o' x' ho hx => ?_⟩
    cases i with
    | zero => simp at ho hx; subst ho hx; exact ⟨h1, h2, h3, h4⟩
    | succ i => exact k2 i o' x' (by simpa using ho) (by simpa using hx)
  | [], _ :: _, h => by simp [listChk] at h
  | _ :: _, [], h => by simp [listChk] at h
theorem slotsOk_at : ∀ {r : List XO} {k : Nat}, slotsOk k r = true → ∀ (i j : Nat) (a b : XO), i < j → r[i]? = some a → r[j]? = some b → (k + i) ∈ b.ast ∨ slotsMeet a b = false
  | [], _, _, i, j, a, b, _, h, _ => by simp at h
  | x :: r, k, h, i, j, a, b, hij, ha, hb => by
    simp only [slotsOk, Bool.and_eq_true, List.all_eq_true] at h
    cases j with
    | zero => omega
    | succ j =>
      cases i with
      | zero =>
        simp only [List.getElem?_cons_zero, Option.some.injEq] at ha
        subst ha
        have := h.1 b (List.mem_of_getElem? (by simpa using hb))
        simpa using this
      | succ i =>
        have := slotsOk_at h.2 i j a b (by omega) (by simpa using ha) (by simpa using hb)
        rwa [Nat.add_right_comm, Nat.add_assoc] at this
theorem okD_at : ∀ {r : List Tr} {k : Nat}, okD k r = true → ∀ (i j : Nat) (a b : Tr), i < j → r[i]? = some a → r[j]? = some b → (k + i) ∈ b.ast ∨ meet a b = false
  | [], _, _, i, j, a, b, _, h, _ => by simp at h
  | x :: r, k, h, i, j, a, b, hij, ha, hb => by
    simp only [okD, Bool.and_eq_true, List.all_eq_true] at h
    cases j with
    | zero => omega
    | succ j =>
      cases i with
      | zero =>
        simp only [List.getElem?_cons_zero, Option.some.injEq] at ha
        subst ha
        have := h.1 b (List.mem_of_getElem? (by simpa using hb))
        split at this
        · rename_i h1; left; simpa using h1
        · right; simpa using this
      | succ i =>
        have := okD_at h.2 i j a b (by omega) (by simpa using ha) (by simpa using hb)
        rwa [Nat.add_right_comm, Nat.add_assoc] at this
theorem astOk_at {xs : List XO} : ∀ {r : List XO} {k : Nat}, astOk ops xs k r = true → ∀ (i : Nat) (x : XO), r[i]? = some x → ∃ o, ops[k + i]? = some o ∧ (∀ e ∈ o.after, Region.binds .any e = true → e.on < k + i) ∧
    ∀ z ∈ x.ast, ∃ e ∈ o.after, Region.binds .any e = true ∧ (z = e.on ∨ ∃ y : XO, xs[e.on]? = some y ∧ z ∈ y.ast)
  | [], _, _, i, x, h => by simp at h
  | y :: r, k, h, i, x, hx => by
    simp only [astOk, Bool.and_eq_true] at h
    cases i with
    | succ i =>
      have := astOk_at h.2 i x (by simpa using hx)
      rwa [Nat.add_right_comm, Nat.add_assoc] at this
    | zero =>
      simp only [List.getElem?_cons_zero, Option.some.injEq] at hx
      subst hx
      have h0 := h.1
      split at h0
      · cases h0
      · rename_i o ho
        simp only [Bool.and_eq_true, Array.all_eq_true_iff_forall_mem, List.all_eq_true, Array.any_eq_true'] at h0
        refine ⟨o, by simpa using ho, fun e he hb => ?_, fun z hz => ?_⟩
        · have := h0.1 e he
          simpa [hb] using this
        · obtain ⟨e, he, hb, hz⟩ := h0.2 z hz
          refine ⟨e, he, hb, ?_⟩
          simp only [Bool.or_eq_true, beq_iff_eq] at hz
          rcases hz with hz | hz
          · exact .inl hz
          · right
            split at hz
            · rename_i y' hy; exact ⟨y', hy, by simpa using hz⟩
            · cases hz
theorem ready_some' {listed : Array Bool} (hback : ∀ (i : Nat) (o : Oper), ops[i]? = some o → ∀ e ∈ o.after, Region.binds .any e = true → e.on < i) (hls : listed.size = ops.size) :
    ∀ k, k < ops.size → listed.getD k true = false → Region.ready .any ops listed ≠ [] := by
  intro k
  induction k using Nat.strongRecOn with
  | _ k ih =>
    intro hk h0 hr
    have : k ∈ Region.ready .any ops listed := mem_ready.2 ⟨h0, ops[k], by simp [hk], fun e he hb => by
      have hlt := hback k ops[k] (by simp [hk]) e he hb
      have hlt' : e.on < listed.size := by omega
      cases hh : listed.getD e.on true with
      | false => exact absurd hr (ih e.on hlt (by omega) hh)
      | true => simpa [hlt'] using hh⟩
    rw [hr] at this
    cases this
theorem getD_flip {listed : Array Bool} {k : Nat} (hk : k < listed.size) : listed.getD k true = listed.getD k false := by simp [hk]
def unl (N : Nat) (listed : Array Bool) : List Nat := (List.range N).filter fun i => !listed.getD i false
theorem unl_set {N : Nat} {listed : Array Bool} {i : Nat} (hs : listed.size = N) (hi : i < N) (h0 : listed.getD i false = false) : (unl N (listed.setIfInBounds i true)).length < (unl N listed).length := by
  have hsub : ∀ (r : List Nat), (r.filter fun j => !(listed.setIfInBounds i true).getD j false).length ≤ (r.filter fun j => !listed.getD j false).length ∧ (i ∈ r → (r.filter fun j => !(listed.setIfInBounds i true).getD j false).length < (r.filter fun j => !listed.getD j false).length) := by
    intro r
    induction r with
    | nil => exact ⟨Nat.le_refl _, fun h => by simp at h⟩
    | cons y r ih =>
      by_cases e : y = i
      · subst e
        have h1 : (listed.setIfInBounds y true).getD y false = true := by simp [hs, hi]
        rw [List.filter_cons_of_neg (by simp [h1]), List.filter_cons_of_pos (by simpa using h0)]
        simp only [List.length_cons]
        exact ⟨by omega, fun _ => by omega⟩
      · have h1 : (listed.setIfInBounds i true).getD y false = listed.getD y false := by simp [Array.getElem?_setIfInBounds_ne (Ne.symm e)]
        cases hq : listed.getD y false with
        | true =>
          rw [List.filter_cons_of_neg (by rw [h1, hq]; simp), List.filter_cons_of_neg (by rw [hq]; simp)]
          exact ⟨ih.1, fun h => ih.2 ((List.mem_cons.1 h).resolve_left (Ne.symm e))⟩
        | false =>
          rw [List.filter_cons_of_pos (by rw [h1, hq]; simp), List.filter_cons_of_pos (by rw [hq]; simp)]
          simp only [List.length_cons]
          exact ⟨by omega, fun h => by have := ih.2 ((List.mem_cons.1 h).resolve_left (Ne.symm e)); omega⟩
  exact (hsub (List.range N)).2 (List.mem_range.2 hi)
def fullAst : Nat → List XO → Bool
  | _, [] => true
  | k, x :: r => (List.range k).all x.ast.contains && fullAst (k + 1) r
theorem fullAst_at : ∀ {r : List XO} {k : Nat}, fullAst k r = true → ∀ (i : Nat) (x : XO), r[i]? = some x → ∀ z, z < k + i → z ∈ x.ast
  | [], _, _, i, x, h => by simp at h
  | y :: r, k, hf, i, x, h => by
    simp only [fullAst, Bool.and_eq_true, List.all_eq_true, List.mem_range, List.contains_iff_mem] at hf
    intro z hz
    cases i with
    | zero =>
      simp only [List.getElem?_cons_zero, Option.some.injEq] at h
      subst h; exact hf.1 z hz
    | succ i => exact fullAst_at hf.2 i x (by simpa using h) z (by omega)
theorem region_Dp {ro : Option Nat} (hC : ∀ e ∈ C, Con P e) {id : Nat} {xs tl : List XO} {st st' : AS} {p : Prop} {trs : List Tr} {a : Act} {w : World} {ψ : Nat → Value} {o1 o2 : List Oper} (ho1 : ops.toList = o1 ++ o2) (hchk : listChk P n ops o1 xs = true) (hsz : ops.size = (xs ++ tl).length) (hm : P.follows .mixedOrders = true) (hsl : slotsOk 0 (xs ++ tl) = true) (hast : astOk ops (xs ++ tl) 0 (xs ++ tl) = true)
    (hfa : fullAst xs.length tl = true) (h : runD C st xs = some (p, st', trs)) (hp' : p) (hok : okD 0 trs = true) (s : Sim P B M n st ψ w0 a w)
    (hQ : ∀ (fuel : Nat) (listed : Array Bool) ψ' a' w', listed.size = ops.size → (unl ops.size listed).length ≤ fuel → (∀ j, listed.getD j false = decide (j < xs.length)) → Sim P B M n st' ψ' w0 a' w' → wpAnyIn (Fen ro) 0 P .any ops Q fuel listed a' w') : (Code.region id ops true).wpIn (Fen ro) 0 P Q a w := by
  obtain ⟨g1, g2, g3, g5⟩ := runD_good h hp' hchk
  obtain ⟨k1, k2⟩ := listChk_at hchk
  have hxs : ∀ (j : Nat) (x : XO), xs[j]? = some x → (xs ++ tl)[j]? = some x := fun j x hj => by
    rw [List.getElem?_append_left (List.getElem?_eq_some_iff.1 hj).1]; exact hj
  have hback : ∀ (i : Nat) (o : Oper), ops[i]? = some o → ∀ e ∈ o.after, Region.binds .any e = true → e.on < i := by
    intro i o ho e he hb
    have hi : i < (xs ++ tl).length := by rw [← hsz]; exact (Array.getElem?_eq_some_iff.1 ho).1
    obtain ⟨o', h1, h2, _⟩ := astOk_at hast i (xs ++ tl)[i] (by rw [List.getElem?_eq_getElem hi])
    rw [Nat.zero_add] at h1 h2
    rw [ho] at h1; injection h1 with h1; subst h1
    exact h2 e he hb
  refine wpIn_region_any hm ?_
  -- whatever has been carried out
  have main : ∀ (fuel : Nat) (listed : Array Bool) (ψ : Nat → Value) (a : Act) (w : World), listed.size = ops.size → (unl ops.size listed).length ≤ fuel →
      (∀ (j : Nat) (x : XO), (xs ++ tl)[j]? = some x → listed.getD j false = true → ∀ z ∈ x.ast, listed.getD z false = true) → (∀ j, listed.getD j false = true → j < xs.length) →
      SimF P B M (apE (fun j => listed.getD j false) 0 trs (tmG st.tm, look st.hp)).1 n (apE (fun j => listed.getD j false) 0 trs (tmG st.tm, look st.hp)).2 (fun l => l < st.nx ∨ ∃ j, listed.getD j false = true ∧ l = st.nx + j) ψ w0 a w →
      wpAnyIn (Fen ro) 0 P .any ops Q fuel listed a w := by
    have done : ∀ (fuel : Nat) (listed : Array Bool) (ψ : Nat → Value) (a : Act) (w : World), listed.size = ops.size → (unl ops.size listed).length ≤ fuel → (∀ j, listed.getD j false = true → j < xs.length) → (∀ k, k < xs.length → listed.getD k false = true) →
        SimF P B M (apE (fun j => listed.getD j false) 0 trs (tmG st.tm, look st.hp)).1 n (apE (fun j => listed.getD j false) 0 trs (tmG st.tm, look st.hp)).2 (fun l => l < st.nx ∨ ∃ j, listed.getD j false = true ∧ l = st.nx + j) ψ w0 a w → wpAnyIn (Fen ro) 0 P .any ops Q fuel listed a w := by
      intro fuel listed ψ a w hs hf hpl hall hsim
      rw [apE_congr (E' := fun _ => true) (fun j hj => by rw [Nat.zero_add]; exact hall j (by rw [← g1]; exact hj)), ← g3] at hsim
      refine hQ fuel listed ψ a w hs hf (fun j => ?_) ⟨hsim.hok, hsim.av, hsim.size, hsim.defers, fun t l hl => ?_, fun l ob hl => ?_, hsim.bel⟩
      · by_cases c : j < xs.length
        · rw [hall j c]; simp [c]
        · cases hq : listed.getD j false with
          | true => exact absurd (hpl j hq) c
          | false => simp [c]
      all_goals
        have lt : ∀ l, (l < st.nx ∨ ∃ j, listed.getD j false = true ∧ l = st.nx + j) → l < st'.nx := by
          rintro l (q | ⟨j, q, rfl⟩)
          · rw [g5]; omega
          · have := hpl j q
            rw [g5]; omega
      · exact lt l (hsim.lt t l hl)
      · exact ⟨lt l (hsim.hlt l ob hl).1, fun k hk => lt k ((hsim.hlt l ob hl).2 k hk)⟩
    have some1 : ∀ (listed : Array Bool), listed.size = ops.size → ¬ (∀ k, k < xs.length → listed.getD k false = true) → ∃ k, k < ops.size ∧ k < xs.length ∧ listed.getD k false = false := by
      intro listed hs hno
      rw [Classical.not_forall] at hno
      obtain ⟨k, hk⟩ := hno
      rw [Classical.not_imp] at hk
      exact ⟨k, by rw [hsz, List.length_append]; omega, hk.1, by simpa using hk.2⟩
    intro fuel
    induction fuel with
    | zero =>
      intro listed ψ a w hs hf hcl hpl hsim
      by_cases hall : ∀ k, k < xs.length → listed.getD k false = true
      · exact done 0 listed ψ a w hs hf hpl hall hsim
      · exfalso
        obtain ⟨k, hk, _, hq⟩ := some1 listed hs hall
        have h0 : unl ops.size listed = [] := List.eq_nil_of_length_eq_zero (by omega)
        have : k ∈ unl ops.size listed := List.mem_filter.2 ⟨List.mem_range.2 hk, by rw [hq]; rfl⟩
        rw [h0] at this; cases this
    | succ fuel ih =>
      intro listed ψ a w hs hf hcl hpl hsim
      by_cases hall : ∀ k, k < xs.length → listed.getD k false = true
      · exact done _ listed ψ a w hs hf hpl hall hsim
      obtain ⟨k0, hk0, hk0x, hq0⟩ := some1 listed hs hall
      refine ⟨fun hr => absurd hr (ready_some' hback hs k0 hk0 (by rw [getD_flip (by omega), hq0])), fun i hi => ?_⟩
      · obtain ⟨hi0, o, ho, hpre⟩ := mem_ready.1 hi
        have hin := (Array.getElem?_eq_some_iff.1 ho).1
        rw [getD_flip (by omega)] at hi0
        have hallI : ∀ (y : XO), (xs ++ tl)[i]? = Option.some y → ∀ z ∈ y.ast, listed.getD z false = true := by
          intro y hy z hz
          obtain ⟨o', n1, n2, n3⟩ := astOk_at hast i y hy
          rw [Nat.zero_add] at n1
          rw [ho] at n1; injection n1 with n1; subst n1
          obtain ⟨e, he, hb, hz'⟩ := n3 z hz
          have hon := hpre e he hb
          rcases hz' with rfl | ⟨y', hy', hzy⟩
          · exact hon
          · exact hcl e.on y' hy' hon z hzy
        have hix : i < xs.length := by
          rcases Nat.lt_or_ge i xs.length with c | c
          · exact c
          · exfalso
            have hi2 : i < (xs ++ tl).length := by rw [← hsz]; exact hin
            have hy : (xs ++ tl)[i]? = Option.some (xs ++ tl)[i] := List.getElem?_eq_getElem hi2
            have hz := hallI _ hy k0 (by
              rw [List.getElem?_append_right c] at hy
              exact fullAst_at hfa _ _ hy k0 (by omega))
            rw [hq0] at hz; cases hz
        obtain ⟨x, hx⟩ : ∃ x, xs[i]? = some x := ⟨xs[i]'(by omega), by simp [hix]⟩
        obtain ⟨t, ht⟩ : ∃ t, trs[i]? = some t := ⟨trs[i]'(by omega), by simp [show i < trs.length by omega]⟩
        obtain ⟨c1, c2, c3, c4⟩ := k2 i o x (by
          have : ops.toList[i]? = Option.some o := by rw [Array.getElem?_toList]; exact ho
          rw [ho1, List.getElem?_append_left (by omega)] at this; exact this) hx
        obtain ⟨q, m1, m2, m3, m4, m5, m6, m7⟩ := g2 i x t hx ht
        -- what must come first has come
        have hastI : ∀ z ∈ x.ast, listed.getD z false = true := hallI x (hxs i x hx)
        have early : ∀ (j : Nat) (y : XO) (u : Tr), xs[j]? = some y → trs[j]? = some u → (listed.getD (0 + j) false) ≠ decide (0 + j < i) → (j < i ∧ j ∉ x.ast) ∨ (i < j ∧ i ∉ y.ast) := by
          intro j y u hy hu hne
          rw [Nat.zero_add] at hne
          rcases Nat.lt_trichotomy j i with c | c | c
          · left
            refine ⟨c, fun hm => ?_⟩
            rw [hastI j hm] at hne
            simp [c] at hne
          · subst c; rw [hi0] at hne; simp at hne
          · right
            refine ⟨c, fun hm => ?_⟩
            cases hq : listed.getD j false with
            | true => rw [hcl j y (hxs j y hy) hq i hm] at hi0; cases hi0
            | false => rw [hq] at hne; simp [show ¬ j < i by omega] at hne
        have getx : ∀ (j : Nat) (u : Tr), trs[j]? = some u → ∃ y, xs[j]? = some y ∧ u.dst = y.dst ∧ u.ast = y.ast := by
          intro j u hu
          have hj : j < xs.length := by rw [← g1]; exact (List.getElem?_eq_some_iff.1 hu).1
          obtain ⟨_, _, _, _, r4, _, r6, _⟩ := g2 j xs[j] u (by simp [hj]) hu
          exact ⟨xs[j], by simp [hj], r4, r6⟩
        have htm : ∀ r ∈ x.reads, (apE (fun j => listed.getD j false) 0 trs (tmG st.tm, look st.hp)).1 r = (apE (fun j => decide (j < i)) 0 trs (tmG st.tm, look st.hp)).1 r := by
          intro r hr
          refine apE_tm rfl fun j u hu hne hdst => ?_
          obtain ⟨y, hy, y1, y2⟩ := getx j u hu
          rw [y1] at hdst
          rcases early j y u hy hu hne with ⟨cj, hna⟩ | ⟨cj, hna⟩
          · rcases slotsOk_at hsl j i y x cj (hxs j y hy) (hxs i x hx) with q | q
            · rw [Nat.zero_add] at q; exact hna q
            · simp [slotsMeet, hdst, hr] at q
          · rcases slotsOk_at hsl i j x y cj (hxs i x hx) (hxs j y hy) with q | q
            · rw [Nat.zero_add] at q; exact hna q
            · simp [slotsMeet, hdst, hr] at q
        have hhp : ∀ l ∈ t.R, (apE (fun j => listed.getD j false) 0 trs (tmG st.tm, look st.hp)).2 l = (apE (fun j => decide (j < i)) 0 trs (tmG st.tm, look st.hp)).2 l := by
          intro l hl
          refine apE_hp rfl fun j u hu hne htc => ?_
          obtain ⟨y, hy, y1, y2⟩ := getx j u hu
          rcases early j y u hy hu hne with ⟨cj, hna⟩ | ⟨cj, hna⟩
          · rcases okD_at hok j i u t cj hu ht with q | q
            · rw [Nat.zero_add, m6] at q; exact hna q
            · simp only [meet, Bool.or_eq_false_iff, List.any_eq_false] at q
              have := q.1 l htc
              simp [hl] at this
          · rcases okD_at hok i j t u cj ht hu with q | q
            · rw [Nat.zero_add, y2] at q; exact hna q
            · simp only [meet, Bool.or_eq_false_iff, List.any_eq_false] at q
              have := q.2 l htc
              simp [hl] at this
        have hargs : x.args.map (avF (apE (fun j => listed.getD j false) 0 trs (tmG st.tm, look st.hp)).1) = x.args.map (avF (apE (fun j => decide (j < i)) 0 trs (tmG st.tm, look st.hp)).1) := by
          refine List.map_congr_left fun z hz => ?_
          cases z with
          | t k => exact htm k (by simp only [XO.reads, List.mem_append, List.mem_flatMap]; exact .inl ⟨_, hz, by simp [XA.slot]⟩)
          | _ => rfl
        have hgv : gvF (apE (fun j => listed.getD j false) 0 trs (tmG st.tm, look st.hp)).1 x = gvF (apE (fun j => decide (j < i)) 0 trs (tmG st.tm, look st.hp)).1 x := by
          unfold gvF
          cases hg : x.guard with
          | none => rfl
          | some g =>
            obtain ⟨_, k, b⟩ := g
            simp only
            rw [htm k (by simp [XO.reads, hg])]
        have hRA : ∀ l ∈ t.R, (l < st.nx ∨ ∃ j, listed.getD j false = true ∧ l = st.nx + j) := by
          intro l hl
          rw [m3] at hl
          have hR' : reachO x.op (apE (fun j => decide (j < i)) 0 trs (tmG st.tm, look st.hp)).2 (x.args.map (avF (apE (fun j => decide (j < i)) 0 trs (tmG st.tm, look st.hp)).1)) = reach (apE (fun j => decide (j < i)) 0 trs (tmG st.tm, look st.hp)).2 (x.args.map (avF (apE (fun j => decide (j < i)) 0 trs (tmG st.tm, look st.hp)).1)) := by
            rcases reachO_or x.op (apE (fun j => decide (j < i)) 0 trs (tmG st.tm, look st.hp)).2 (x.args.map (avF (apE (fun j => decide (j < i)) 0 trs (tmG st.tm, look st.hp)).1)) with q | q
            · rw [q] at hl; cases hl
            · exact q
          rw [hR'] at hl
          rw [hR'] at m3
          simp only [reach, List.mem_append, List.mem_flatMap] at hl
          rw [← hargs] at hl
          rcases hl with hl | ⟨z, hz, hl⟩
          · exact hsim.argLocs l hl
          · split at hl
            · rename_i ob hob
              have hzR : z ∈ t.R := by rw [m3, ← hargs]; exact List.mem_append_left _ hz
              rw [← hhp z hzR] at hob
              exact (hsim.hlt z ob hob).2 l hl
            · cases hl
        unfold effIn at m7
        simp only [Bool.and_eq_true] at m7
        have inA : ∀ l, l ∈ t.fr :: (t.R ++ AV.locsL (x.args.map (avF (apE (fun j => decide (j < i)) 0 trs (tmG st.tm, look st.hp)).1))) → (l < st.nx ∨ ∃ j, (listed.setIfInBounds i true).getD j false = true ∧ l = st.nx + j) := by
          intro l hl
          rcases List.mem_cons.1 hl with rfl | hl
          · exact .inr ⟨i, by simp [hs, hin], m5⟩
          · have hl2 : (l < st.nx ∨ ∃ j, listed.getD j false = true ∧ l = st.nx + j) := by
              rcases List.mem_append.1 hl with hl | hl
              · exact hRA l hl
              · rw [← hargs] at hl; exact hsim.argLocs l hl
            rcases hl2 with q | ⟨j, q1, q2⟩
            · exact .inl q
            · refine .inr ⟨j, ?_, q2⟩
              by_cases e : i = j
              · subst e; simp [hs, hin]
              · simpa [Array.getElem?_setIfInBounds_ne e] using q1
        unfold wpOpIn
        rw [ho]
        refine up_ops (step_ok (lh := restr (apE (fun j => decide (j < i)) 0 trs (tmG st.tm, look st.hp)).2 t.R) (fr := t.fr) (A' := fun l => l < st.nx ∨ ∃ j, (listed.setIfInBounds i true).getD j false = true ∧ l = st.nx + j) hC hsim c1 c2 c3 c4 ?_ ?_ ?_ (inA _ (by simp)) ?_ ?_ ?_ (by rw [hgv, hargs]; exact m1) m2 ?_)
        · intro l ob hlo
          unfold restr at hlo
          split at hlo
          · rename_i hl; rw [hhp l hl]; exact hlo
          · cases hlo
        · rintro (q | ⟨j, q1, q2⟩)
          · rw [m5] at q; omega
          · rw [m5] at q2
            obtain rfl : i = j := by omega
            rw [hi0] at q1; cases q1
        · rintro l (q | ⟨j, q1, q2⟩)
          · exact .inl q
          · refine .inr ⟨j, ?_, q2⟩
            by_cases e : i = j
            · subst e; simp [hs, hin]
            · simpa [Array.getElem?_setIfInBounds_ne e] using q1
        · intro l ob hput
          have := m7.2
          rw [hput] at this
          simp only [Bool.and_eq_true] at this
          exact inA l (by simpa using this.1)
        · intro l hl
          exact inA l (inAll_mem m7.1.1 l hl)
        · intro l ob hput k hk
          have := m7.2
          rw [hput] at this
          simp only [Bool.and_eq_true] at this
          exact inA k (inAll_mem this.2 k hk)
        · intro ψ' a' w' hs'
          have hE : apE (fun j => (listed.setIfInBounds i true).getD j false) 0 trs (tmG st.tm, look st.hp) = t.app (apE (fun j => listed.getD j false) 0 trs (tmG st.tm, look st.hp)) := by
            rw [← apE_insert (i := i) (ti := t) (Nat.zero_le _) ht hi0 (fun j u hij hu hEj => ?_)]
            · apply apE_congr
              intro j hj
              rw [Nat.zero_add]
              by_cases e : i = j
              · subst e; simp [hs, hin]
              · have : (j == i) = false := by rw [beq_eq_false_iff_ne]; exact Ne.symm e
                simp [Array.getElem?_setIfInBounds_ne e, this]
            · rw [Nat.zero_add] at hij hEj
              obtain ⟨y, hy, y1, y2⟩ := getx j u hu
              have hna : i ∉ y.ast := fun hm => by rw [hcl j y (hxs j y hy) hEj i hm] at hi0; cases hi0
              constructor
              · intro d hd hd'
                rw [m4] at hd
                rw [y1] at hd'
                rcases slotsOk_at hsl i j x y hij (hxs i x hx) (hxs j y hy) with q | q
                · rw [Nat.zero_add] at q; exact hna q
                · simp [slotsMeet, hd, hd'] at q
              · intro l hl hl'
                rcases okD_at hok i j t u hij ht hu with q | q
                · rw [Nat.zero_add, y2] at q; exact hna q
                · simp only [meet, Bool.or_eq_false_iff, List.any_eq_false] at q
                  have := q.1 l hl
                  simp [hl'] at this
          refine ih (listed.setIfInBounds i true) ψ' a' w' (by simpa using hs) (by have := unl_set hs hin hi0; omega) ?_ ?_ ?_
          · intro j y hy hj z hz
            have hz' : listed.getD z false = true := by
              by_cases e : i = j
              · subst e; rw [hxs i x hx] at hy; injection hy with hy; subst hy; exact hastI z hz
              · exact hcl j y hy (by simpa [Array.getElem?_setIfInBounds_ne e] using hj) z hz
            by_cases e : i = z
            · subst e; simp [hs, hin]
            · simpa [Array.getElem?_setIfInBounds_ne e] using hz'
          · intro j hj
            by_cases e : i = j
            · omega
            · exact hpl j (by simpa [Array.getElem?_setIfInBounds_ne e] using hj)
          · rw [hE]
            simp only [Tr.app]
            rw [m4]
            exact hs'
  refine main ops.size (Array.replicate ops.size false) ψ a _ (by simp) ?_ ?_ ?_ ?_
  · unfold unl
    exact Nat.le_trans (List.length_filter_le _ _) (by simp)
  · intro j x _ hj
    simp [Array.getElem?_replicate] at hj
    split at hj <;> simp at hj
  · intro j hj
    simp [Array.getElem?_replicate] at hj
    split at hj <;> simp at hj
  · have e0 : (fun j => (Array.replicate ops.size false).getD j false) = fun _ => false := by
      funext j
      simp [Array.getElem?_replicate]
      split <;> rfl
    rw [e0, apE_none]
    have := s.drew
    refine ⟨this.hok, this.av, this.size, this.defers, fun t l hl => .inl (this.lt t l hl), fun l ob hl => ⟨.inl (this.hlt l ob hl).1, fun k hk => .inl ((this.hlt l ob hl).2 k hk)⟩, this.bel⟩
theorem region_D {ro : Option Nat} (hC : ∀ e ∈ C, Con P e) {id : Nat} {xs : List XO} {st st' : AS} {p : Prop} {trs : List Tr} {a : Act} {w : World} {ψ : Nat → Value} (hchk : listChk P n ops ops.toList xs = true) (hm : P.follows .mixedOrders = true) (hsl : slotsOk 0 xs = true) (hast : astOk ops xs 0 xs = true)
    (h : runD C st xs = some (p, st', trs)) (hp' : p) (hok : okD 0 trs = true) (s : Sim P B M n st ψ w0 a w)
    (hQ : ∀ ψ' a' w', Sim P B M n st' ψ' w0 a' w' → Q .normal a' w') : (Code.region id ops true).wpIn (Fen ro) 0 P Q a w := by
  have hl := (listChk_at hchk).1
  rw [Array.length_toList] at hl
  refine region_Dp (tl := []) hC (o1 := ops.toList) (o2 := []) (by simp) hchk (by simpa using hl) hm (by simpa using hsl) (by simpa using hast) rfl h hp' hok s fun fuel listed ψ' a' w' hs hf hall hsim => ?_
  have hr : Region.ready .any ops listed = [] := by
    apply List.eq_nil_iff_forall_not_mem.2
    intro j hj
    obtain ⟨h0, o, ho, _⟩ := mem_ready.1 hj
    have hj' := (Array.getElem?_eq_some_iff.1 ho).1
    rw [getD_flip (by omega), hall j] at h0
    simp at h0; omega
  cases fuel with
  | zero => exact ⟨hr, hQ ψ' a' w' hsim⟩
  | succ fuel => exact ⟨fun _ => hQ ψ' a' w' hsim, fun i hi => by rw [hr] at hi; cases hi⟩
/-! Behind a call that is walked in place the order is that of the text. -/
theorem ast_lt {all : List XO} (hast : astOk ops all 0 all = true) : ∀ (i : Nat) (x : XO), all[i]? = some x → ∀ z ∈ x.ast, z < i := by
  intro i
  induction i using Nat.strongRecOn with
  | _ i ih =>
    intro x hx z hz
    obtain ⟨o, n1, n2, n3⟩ := astOk_at hast i x hx
    rw [Nat.zero_add] at n2
    obtain ⟨e, he, hb, hz'⟩ := n3 z hz
    have h1 := n2 e he hb
    rcases hz' with rfl | ⟨y, hy, hzy⟩
    · exact h1
    · exact Nat.lt_trans (ih e.on h1 y hy z hzy) h1
theorem forced_ready {all : List XO} {k : Nat} (hsz : ops.size = all.length) (hast : astOk ops all 0 all = true) (hfull : ∀ i x, k ≤ i → all[i]? = some x → ∀ z, z < i → z ∈ x.ast) {listed : Array Bool} {j : Nat} (hs : listed.size = ops.size) (hl : ∀ i, listed.getD i false = decide (i < j)) (hk : k ≤ j) :
    ∀ i ∈ Region.ready .any ops listed, i = j ∧ j < ops.size := by
  intro i hi
  obtain ⟨h0, o, ho, hpre⟩ := mem_ready.1 hi
  have hin := (Array.getElem?_eq_some_iff.1 ho).1
  rw [getD_flip (by omega), hl] at h0
  simp only [decide_eq_false_iff_not, Nat.not_lt] at h0
  rcases Nat.lt_or_ge j i with c | c
  · exfalso
    have hx : all[i]? = some (all[i]'(by omega)) := List.getElem?_eq_getElem (by omega)
    obtain ⟨o', n1, n2, n3⟩ := astOk_at hast i _ hx
    rw [Nat.zero_add] at n1
    rw [ho] at n1; injection n1 with n1; subst n1
    obtain ⟨e, he, hb, hz⟩ := n3 j (hfull i _ (by omega) hx j c)
    have hon := hpre e he hb
    have hlt : e.on < j := by
      rw [hl] at hon
      simpa using hon
    rcases hz with h | ⟨y, hy, hzy⟩
    · omega
    · have := ast_lt hast e.on y hy j hzy; omega
  · exact ⟨by omega, by omega⟩
theorem forced_step {ro : Option Nat} {all : List XO} {k : Nat} (hsz : ops.size = all.length) (hast : astOk ops all 0 all = true) (hfull : ∀ i x, k ≤ i → all[i]? = some x → ∀ z, z < i → z ∈ x.ast) {listed : Array Bool} {j fuel : Nat} {a : Act} {w : World} {o : Oper} (hs : listed.size = ops.size) (hl : ∀ i, listed.getD i false = decide (i < j)) (hk : k ≤ j)
    (hf : (unl ops.size listed).length ≤ fuel) (ho : ops[j]? = some o)
    (hgo : ∀ (fuel' : Nat) (listed' : Array Bool), listed'.size = ops.size → (unl ops.size listed').length ≤ fuel' → (∀ i, listed'.getD i false = decide (i < j + 1)) →
      Up ro P ops o a w (wpAnyIn (Fen ro) 0 P .any ops Q fuel' listed') Q) :
    wpAnyIn (Fen ro) 0 P .any ops Q fuel listed a w := by
  have hj := (Array.getElem?_eq_some_iff.1 ho).1
  have hj0 : listed.getD j false = false := by rw [hl]; simp
  have hback : ∀ (i : Nat) (o : Oper), ops[i]? = some o → ∀ e ∈ o.after, Region.binds .any e = true → e.on < i := by
    intro i o ho e he hb
    have hi : i < all.length := by rw [← hsz]; exact (Array.getElem?_eq_some_iff.1 ho).1
    obtain ⟨o', h1, h2, _⟩ := astOk_at hast i all[i] (by rw [List.getElem?_eq_getElem hi])
    rw [Nat.zero_add] at h1 h2
    rw [ho] at h1; injection h1 with h1; subst h1
    exact h2 e he hb
  cases fuel with
  | zero =>
    exfalso
    have h0 : unl ops.size listed = [] := List.eq_nil_of_length_eq_zero (by omega)
    have : j ∈ unl ops.size listed := List.mem_filter.2 ⟨List.mem_range.2 hj, by rw [hj0]; rfl⟩
    rw [h0] at this; cases this
  | succ fuel =>
    refine ⟨fun hr => absurd hr (ready_some' hback hs j hj (by rw [getD_flip (by omega), hj0])), fun i hi => ?_⟩
    obtain ⟨rfl, _⟩ := forced_ready hsz hast hfull hs hl hk i hi
    unfold wpOpIn
    rw [ho]
    refine up_ops (hgo fuel _ (by simpa using hs) (by have := unl_set hs hj hj0; omega) fun m => ?_)
    by_cases e : i = m
    · subst e; simp [hs, hj]
    · have : (listed.setIfInBounds i true).getD m false = listed.getD m false := by simp [Array.getElem?_setIfInBounds_ne e]
      rw [this, hl]
      simp only [decide_eq_decide]; omega
theorem forced_run {ro : Option Nat} (hC : ∀ e ∈ C, Con P e) {all : List XO} {k : Nat} (hsz : ops.size = all.length) (hast : astOk ops all 0 all = true) (hfull : ∀ i x, k ≤ i → all[i]? = some x → ∀ z, z < i → z ∈ x.ast) : ∀ (os : List Oper) (xs : List XO) (j : Nat), ops.toList.drop j = os → k ≤ j → listChk P n ops os xs = true →
    ∀ {st st' : AS} {p : Prop}, runT C st xs = some (p, st') → p → ∀ {ψ : Nat → Value} {a : Act} {w : World}, Sim P B M n st ψ w0 a w → (∀ ψ' a' w', Sim P B M n st' ψ' w0 a' w' → Q .normal a' w') →
    ∀ (fuel : Nat) (listed : Array Bool), listed.size = ops.size → (unl ops.size listed).length ≤ fuel → (∀ i, listed.getD i false = decide (i < j)) → wpAnyIn (Fen ro) 0 P .any ops Q fuel listed a w
  | [], xs, j, hj, hk, hchk, st, st', p, h, hp', ψ, a, w, s, hQ, fuel, listed, hs, hf, hl => by
    cases xs with
    | cons _ _ => simp [listChk] at hchk
    | nil =>
      simp only [runT, Option.some.injEq, Prod.mk.injEq] at h
      obtain ⟨_, rfl⟩ := h
      have hje : ops.size ≤ j := by
        have := congrArg List.length hj
        simp at this; omega
      have hr : Region.ready .any ops listed = [] := by
        apply List.eq_nil_iff_forall_not_mem.2
        intro i hi
        have := forced_ready hsz hast hfull hs hl hk i hi
        omega
      cases fuel with
      | zero => exact ⟨hr, hQ ψ a w s⟩
      | succ fuel => exact ⟨fun _ => hQ ψ a w s, fun i hi => by rw [hr] at hi; cases hi⟩
  | o :: os, xs, j, hj, hk, hchk, st, st', p, h, hp', ψ, a, w, s, hQ, fuel, listed, hs, hf, hl => by
    cases xs with
    | nil => simp [listChk] at hchk
    | cons x xs =>
      simp only [listChk, Bool.and_eq_true] at hchk
      obtain ⟨⟨⟨⟨h1, h2⟩, h3⟩, h4⟩, h5⟩ := hchk
      have hok : ops[j]? = some o := by
        have : (ops.toList.drop j)[0]? = some o := by rw [hj]; rfl
        rw [List.getElem?_drop] at this
        simpa using this
      simp only [runT] at h
      split at h
      · cases h
      · rename_i p1 st1 hst
        split at h
        · cases h
        · rename_i q st2 hrun
          simp only [Option.some.injEq, Prod.mk.injEq] at h
          obtain ⟨rfl, rfl⟩ := h
          unfold stepT at hst
          split at hst
          · cases hst
          · rename_i p2 e hg
            split at hst
            · rename_i hef
              simp only [Option.some.injEq, Prod.mk.injEq] at hst
              obtain ⟨rfl, rfl⟩ := hst
              unfold effOk at hef
              simp only [Bool.and_eq_true] at hef
              have ef1 := ltAll_mem hef.1
              refine forced_step hsz hast hfull hs hl hk hf hok fun fuel' listed' hs' hf' hl' => ?_
              refine step_ok (lh := look st.hp) (fr := st.nx) (A' := fun l => l < st.nx + 1) hC s h1 h2 h3 h4 (fun _ _ h => h) (Nat.lt_irrefl _) (fun l h => Nat.lt_succ_of_lt h) (Nat.lt_succ_self _) ?_ ef1 ?_ ?_ hp'.1 fun ψ' a' w' hs => ?_
              · intro l ob hput
                have := hef.2
                rw [hput] at this
                simp only [Bool.and_eq_true, decide_eq_true_eq] at this
                exact this.1
              · intro l ob hput
                have := hef.2
                rw [hput] at this
                simp only [Bool.and_eq_true] at this
                exact ltAll_mem this.2
              · rw [← gv_gvF, ← hg]
                congr 1
              · refine forced_run hC hsz hast hfull os xs (j + 1) (by rw [← List.tail_drop, hj]; rfl) (by omega) h5 hrun hp'.2 (ψ := ψ') ?_ hQ fuel' listed' hs' hf' hl'
                show SimF _ _ _ (tmG (setT st.tm x.dst e.v)) _ (look (appL e st.hp)) _ _ _ _ _
                rw [setT_get, look_app]
                exact hs
            · cases hst
end
end T
end Go.Proofs.Ytbbpiihbhdagnaa
