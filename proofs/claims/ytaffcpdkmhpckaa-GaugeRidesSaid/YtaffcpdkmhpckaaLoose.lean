/- A region that draws its order and makes memory: each operation is shown once, by itself: whatever order the tape picks, memory only grows, and each operation's value has the property that is claimed of it. -/
import Derived.Test.YtaffcpdkmhpckaaRows
import Derived.WalkKit
import Derived.ProofKit
import Derived.Below
import Derived.OrdersHeld
import Derived.RegionTactic
namespace Go.Proofs.Ytaffcpdkmhpckaa
set_option linter.unusedVariables false
set_option linter.unusedSimpArgs false
open Go.RowKit

/-- New blocks alone. -/
def Ext (w w' : World) : Prop := Below w.heap.size w w'
theorem Ext.refl (w : World) : Ext w w := Below.refl _ _
theorem Ext.trans {a b c : World} (h : Ext a b) (k : Ext b c) : Ext a c := Below.trans h (Below.mono k (Below.size h))

/-- How memory may turn in the region: whatever is claimed of a value must survive it. -/
structure Order (Le : World → World → Prop) : Prop where
  refl : ∀ w, Le w w
  trans : ∀ a b c, Le a b → Le b c → Le a c
theorem Ext.order : Order Ext := ⟨Ext.refl, fun _ _ _ h k => Ext.trans h k⟩

namespace Loose
/-- The blocks that a value leads to at once. -/
def cellBlk : Value → List Nat
  | .slice (some a) _ _ => [a.block]
  | .pointer (some a) => [a.block]
  | .map (some r) => [r]
  | _ => []
def partBlk : Value → List Nat
  | .agg cs => cs.toList.flatMap cellBlk
  | v => cellBlk v
def blks : Value → List Nat
  | .tuple vs => vs.toList.flatMap partBlk
  | v => partBlk v
section
variable {P : Program} {ops : Array Oper} {Q : Exit → Act → World → Prop} {S : World → Prop} {Le : World → World → Prop}

/-- Is operation j among those that operation i waits for at once? -/
def pred (ops : Array Oper) (i j : Nat) : Bool := ((ops[i]?).map fun o => o.after.any fun e => Region.binds .any e && e.on == j).getD false
/-- The facts on the region that the kernel reckons. -/
def ok (ops : Array Oper) (listed : Array Bool) (js : List (Nat × Tmp)) : Bool :=
  js.all (fun p => (ops[p.1]?).map (·.dst) == some (some p.2)) && decide (js.map (·.1)).Nodup && decide (js.map (·.2)).Nodup && decide (listed.size = ops.size)
def unlisted (ops : Array Oper) (listed : Array Bool) (js : List Nat) : Bool :=
  (List.range ops.size).all fun k => (listed.getD k true == false) == js.contains k
/-- The frame with the values laid in. -/
def lay (js : List (Nat × Tmp)) (vs : Tmp → Value) (a : Act) : Act := js.foldl (fun a p => a.put (some p.2) (vs p.2)) a

theorem lay_defers (vs : Tmp → Value) : ∀ (js : List (Nat × Tmp)) (a : Act), (lay js vs a).defers = a.defers
  | [], _ => rfl
  | p :: js, a => by
    show (lay js vs (a.put (some p.2) (vs p.2))).defers = _
    rw [lay_defers vs js]; rfl
theorem lay_size (vs : Tmp → Value) : ∀ (js : List (Nat × Tmp)) (a : Act), (lay js vs a).tmps.size = a.tmps.size
  | [], _ => rfl
  | p :: js, a => by
    show (lay js vs (a.put (some p.2) (vs p.2))).tmps.size = _
    rw [lay_size vs js]; simp [Act.put]
theorem lay_out (vs : Tmp → Value) (t : Nat) : ∀ (js : List (Nat × Tmp)) (a : Act), (∀ p ∈ js, p.2 ≠ t) → (lay js vs a).tmps[t]? = a.tmps[t]?
  | [], _, _ => rfl
  | p :: js, a, h => by
    show (lay js vs (a.put (some p.2) (vs p.2))).tmps[t]? = _
    rw [lay_out vs t js _ (fun q hq => h q (List.mem_cons_of_mem _ hq))]
    simp [Act.put, Array.getElem?_setIfInBounds_ne (h p List.mem_cons_self)]
theorem lay_in (vs : Tmp → Value) : ∀ (js : List (Nat × Tmp)) (a : Act), (js.map (·.2)).Nodup → ∀ p ∈ js, p.2 < a.tmps.size → (lay js vs a).tmps[p.2]? = some (vs p.2)
  | [], _, _, p, hp, _ => by cases hp
  | q :: js, a, hn, p, hp, hs => by
    show (lay js vs (a.put (some q.2) (vs q.2))).tmps[p.2]? = _
    simp only [List.map_cons, List.nodup_cons] at hn
    rcases List.mem_cons.1 hp with rfl | hp
    · rw [lay_out vs p.2 js _ (fun r hr e => hn.1 (List.mem_map.2 ⟨r, hr, e⟩))]
      simp [Act.put, hs]
    · exact lay_in vs js _ hn.2 p hp (by simpa [Act.put] using hs)

/-- Where the region stands: 'rem' are the operations that are still to come. -/
structure At (Le : World → World → Prop) (js rem : List (Nat × Tmp)) (R : Nat → World → Value → Prop) (a0 : Act) (w0 : World) (S : World → Prop) (F : Nat → Bool) (a : Act) (w : World) : Prop where
  ext : Le w0 w
  held : S w
  defers : a.defers = a0.defers
  size : a.tmps.size = a0.tmps.size
  out : ∀ t : Nat, (∀ p ∈ js, p ∉ rem → p.2 ≠ t) → a.tmps[t]? = a0.tmps[t]?
  told : ∀ p ∈ js, p ∉ rem → R p.1 w (a.tmps.getD p.2 undef)
  apart : ∀ p ∈ js, p ∉ rem → ∀ q ∈ js, q ∉ rem → p ≠ q → F p.1 = true → F q.1 = true → ∀ b ∈ blks (a.tmps.getD p.2 undef), b ∉ blks (a.tmps.getD q.2 undef)

theorem At.done {js : List (Nat × Tmp)} {R : Nat → World → Value → Prop} {a0 a : Act} {w0 w : World} {F : Nat → Bool} (h : At Le js [] R a0 w0 S F a w) (hn : (js.map (·.2)).Nodup) :
    a = lay js (fun t => a.tmps.getD t undef) a0 := by
  have hd := h.defers
  have : a.tmps = (lay js (fun t => a.tmps.getD t undef) a0).tmps := by
    apply Array.ext_getElem?
    intro t
    by_cases c : ∃ p ∈ js, p.2 = t
    · obtain ⟨p, hp, rfl⟩ := c
      by_cases hs : p.2 < a0.tmps.size
      · rw [lay_in _ js a0 hn p hp hs]
        have hs' : p.2 < a.tmps.size := by rw [h.size]; exact hs
        simp [Array.getElem?_eq_getElem hs']
      · have hs' : a0.tmps.size ≤ p.2 := Nat.le_of_not_lt hs
        rw [Array.getElem?_eq_none (by rw [h.size]; exact hs'), Array.getElem?_eq_none (by rw [lay_size]; exact hs')]
    · have c' : ∀ p ∈ js, p.2 ≠ t := fun p hp e => c ⟨p, hp, e⟩
      rw [h.out t (fun p hp _ => c' p hp), lay_out _ t js a0 c']
  have hd' : a.defers = (lay js (fun t => a.tmps.getD t undef) a0).defers := by rw [hd, lay_defers]
  cases a
  cases hl : lay js _ a0
  rw [hl] at this hd'
  simp only at this hd'
  subst this hd'
  rfl

/-- What one operation owes: for whatever frame and world the region may stand in when it comes up. -/
def Owes (Le : World → World → Prop) (P : Program) (ops : Array Oper) (Q : Exit → Act → World → Prop) (js : List (Nat × Tmp)) (R : Nat → World → Value → Prop) (a0 : Act) (w0 : World) (S : World → Prop) (F : Nat → Bool) (p : Nat × Tmp) : Prop :=
  ∀ (a : Act) (w : World), Le w0 w → S w → (∀ t : Nat, (∀ q ∈ js, q.2 ≠ t) → a.tmps.getD t undef = a0.tmps.getD t undef) →
    (∀ q ∈ js, pred ops p.1 q.1 = true → R q.1 w (a.tmps.getD q.2 undef)) →
    (∀ q ∈ js, ∀ r ∈ js, pred ops p.1 q.1 = true → pred ops p.1 r.1 = true → q ≠ r → F q.1 = true → F r.1 = true → ∀ b ∈ blks (a.tmps.getD q.2 undef), b ∉ blks (a.tmps.getD r.2 undef)) →
    ∀ K : Act → World → Prop, (∀ v w', Le w w' → S w' → R p.1 w' v → (F p.1 = true → ∀ b ∈ blks v, w.heap.size ≤ b) → K (a.put (some p.2) v) w') → wpOp P ops Q p.1 K a w

theorem nodup_of {l : List (Nat × Tmp)} (h : (l.map (·.1)).Nodup) : l.Nodup := List.Pairwise.of_map (fun p => p.1) (fun _ _ h e => h (by rw [e])) h
theorem inj_of_nodup : ∀ {l : List (Nat × Tmp)} {p q : Nat × Tmp}, (l.map (·.1)).Nodup → p ∈ l → q ∈ l → p.1 = q.1 → p = q
  | x :: l, p, q, hn, hp, hq, e => by
    simp only [List.map_cons, List.nodup_cons] at hn
    have mem : ∀ r : Nat × Tmp, r ∈ l → r.1 ∈ l.map (·.1) := fun r hr => List.mem_map.2 ⟨r, hr, rfl⟩
    by_cases c1 : p = x
    · by_cases c2 : q = x
      · rw [c1, c2]
      · have hq' := (List.mem_cons.1 hq).resolve_left c2
        exact (hn.1 (by rw [← c1, e]; exact mem q hq')).elim
    · have hp' := (List.mem_cons.1 hp).resolve_left c1
      by_cases c2 : q = x
      · exact (hn.1 (by rw [← c2, ← e]; exact mem p hp')).elim
      · exact inj_of_nodup hn.2 hp' ((List.mem_cons.1 hq).resolve_left c2) e
theorem inj_of_nodup2 : ∀ {l : List (Nat × Tmp)} {p q : Nat × Tmp}, (l.map (·.2)).Nodup → p ∈ l → q ∈ l → p.2 = q.2 → p = q
  | x :: l, p, q, hn, hp, hq, e => by
    simp only [List.map_cons, List.nodup_cons] at hn
    have mem : ∀ r : Nat × Tmp, r ∈ l → r.2 ∈ l.map (·.2) := fun r hr => List.mem_map.2 ⟨r, hr, rfl⟩
    by_cases c1 : p = x
    · by_cases c2 : q = x
      · rw [c1, c2]
      · have hq' := (List.mem_cons.1 hq).resolve_left c2
        exact (hn.1 (by rw [← c1, e]; exact mem q hq')).elim
    · have hp' := (List.mem_cons.1 hp).resolve_left c1
      by_cases c2 : q = x
      · exact (hn.1 (by rw [← c2, ← e]; exact mem p hp')).elim
      · exact inj_of_nodup2 hn.2 hp' ((List.mem_cons.1 hq).resolve_left c2) e
theorem ready_some {listed : Array Bool} (hback : ∀ (i : Nat) (o : Oper), ops[i]? = some o → ∀ e ∈ o.after, Region.binds .any e = true → e.on < i) (hls : listed.size = ops.size) :
    ∀ k, k < ops.size → listed.getD k true = false → Region.ready .any ops listed ≠ [] := by
  intro k
  induction k using Nat.strongRecOn with
  | _ k ih =>
    intro hk h0 hr
    have : k ∈ Region.ready .any ops listed := mem_ready.2 ⟨h0, ops[k], by simp [hk], fun e he hb => by
      have hlt := hback k ops[k] (by simp [hk]) e he hb
      have hlt' : e.on < listed.size := by omega
      cases hh : listed.getD e.on true with
      | false => exact absurd hr (ih e.on hlt (by omega) hh)
      | true => simpa [hlt'] using hh⟩
    rw [hr] at this
    cases this
theorem ready_pred {listed : Array Bool} {i j : Nat} (h : i ∈ Region.ready .any ops listed) (hp : pred ops i j = true) : listed.getD j false = true := by
  obtain ⟨_, o, ho, hall⟩ := mem_ready.1 h
  simp only [pred, ho, Option.map_some, Option.getD_some, Array.any_eq_true, Bool.and_eq_true, beq_iff_eq] at hp
  obtain ⟨k, hk, hb, he⟩ := hp
  rw [← he]
  exact hall _ (Array.getElem_mem hk) hb
theorem listed_not {listed : Array Bool} {j : Nat} (h : listed.getD j false = true) : listed.getD j true ≠ false := by
  intro h0
  by_cases c : j < listed.size
  · simp [c] at h h0; rw [h] at h0; cases h0
  · simp [c] at h
theorem getD_set {listed : Array Bool} {j k : Nat} (hk : k < listed.size) : (listed.setIfInBounds j true).getD k true = false ↔ listed.getD k true = false ∧ k ≠ j := by
  by_cases e : j = k
  · subst e
    simp [hk]
  · simp [Array.getElem?_setIfInBounds_ne e]
    exact fun _ => Ne.symm e

theorem run {js : List (Nat × Tmp)} {R : Nat → World → Value → Prop} {a0 : Act} {w0 : World} {F : Nat → Bool}
    (hle : Order Le) (hlt' : ∀ i w v, F i = true → R i w v → ∀ b ∈ blks v, b < w.heap.size) (hmono : ∀ i w w' v, Le w w' → R i w v → R i w' v) (hback : ∀ (i : Nat) (o : Oper), ops[i]? = some o → ∀ e ∈ o.after, Region.binds .any e = true → e.on < i)
    (hn2 : (js.map (·.2)).Nodup) (hin : ∀ p ∈ js, p.1 < ops.size) (hsz : ∀ p ∈ js, p.2 < a0.tmps.size)
    (hstep : ∀ p ∈ js, Owes Le P ops Q js R a0 w0 S F p) (last : Option Nat) (hlast : ∀ l, last = some l → ∀ p ∈ js, pred ops l p.1 = true)
    (hfin : last = none → ∀ a w, At Le js [] R a0 w0 S F a w → Q .normal a w)
    (hfin' : ∀ l, last = some l → ∀ a w, At Le js [] R a0 w0 S F a w → ∀ K : Act → World → Prop, (∀ a' w', S w' → Q .normal a' w' → K a' w') → wpOp P ops Q l K a w) :
    ∀ (n : Nat) (rem : List (Nat × Tmp)) (fuel : Nat) (listed : Array Bool) (a : Act) (w : World), rem.length = n → (rem.map (·.1)).Nodup → (∀ p ∈ rem, p ∈ js) → n + last.toList.length ≤ fuel → listed.size = ops.size →
      (∀ k, k < ops.size → (listed.getD k true = false ↔ k ∈ rem.map (·.1) ∨ last = some k)) → At Le js rem R a0 w0 S F a w → wpAnyH P .any ops Q S fuel listed a w := by
  intro n
  induction n with
  | zero =>
    intro rem fuel listed a w hlen _ _ hf hls hl hat
    obtain rfl : rem = [] := List.eq_nil_of_length_eq_zero hlen
    by_cases hln : last = none
    · refine wpAnyH_done ?_ (hfin hln a w hat) _
      apply List.eq_nil_iff_forall_not_mem.2
      intro j hj
      obtain ⟨h0, o, ho, _⟩ := mem_ready.1 hj
      rcases (hl j (Array.getElem?_eq_some_iff.1 ho).1).1 h0 with h | h
      · simp at h
      · rw [hln] at h; cases h
    obtain ⟨f, rfl⟩ : ∃ f, fuel = f + 1 := ⟨fuel - 1, by cases last with | none => exact absurd rfl hln | some l => simp at hf; omega⟩
    refine ⟨fun hr => ?_, fun j hj => ?_⟩
    · cases last with
      | none => exact absurd rfl hln
      | some l =>
        by_cases hlt : l < ops.size
        · exact absurd hr (ready_some hback hls l hlt ((hl l hlt).2 (.inr rfl)))
        · -- an operation that is not there
          have := hfin' l rfl a w hat (fun a' w' => S w' ∧ Q .normal a' w') (fun _ _ h1 h2 => ⟨h1, h2⟩)
          unfold wpOp at this
          rw [Array.getElem?_eq_none (by omega)] at this
          exact this.2
    · obtain ⟨h0, o, ho, _⟩ := mem_ready.1 hj
      have hlt : j < ops.size := (Array.getElem?_eq_some_iff.1 ho).1
      rcases (hl j hlt).1 h0 with h | h
      · simp at h
      · refine hfin' j h a w hat _ fun a' w' hS hQ => ⟨hS, wpAnyH_done ?_ hQ _⟩
        apply List.eq_nil_iff_forall_not_mem.2
        intro i hi
        obtain ⟨g0, o', ho', _⟩ := mem_ready.1 hi
        have hlt' : i < ops.size := (Array.getElem?_eq_some_iff.1 ho').1
        obtain ⟨g1, g2⟩ := (getD_set (by omega)).1 g0
        rcases (hl i hlt').1 g1 with h' | h'
        · simp at h'
        · rw [h] at h'; injection h' with h'; exact g2 h'.symm
  | succ n ih =>
    intro rem fuel listed a w hlen hnd hsub hf hls hl hat
    obtain ⟨f, rfl⟩ : ∃ f, fuel = f + 1 := ⟨fuel - 1, by omega⟩
    refine ⟨fun hr => ?_, fun j hj => ?_⟩
    · exfalso
      obtain ⟨p, rem', rfl⟩ : ∃ p rem', rem = p :: rem' := by cases rem with | nil => simp at hlen | cons p r => exact ⟨p, r, rfl⟩
      have hlt := hin p (hsub p List.mem_cons_self)
      exact ready_some hback hls p.1 hlt ((hl p.1 hlt).2 (.inl (by simp))) hr
    · obtain ⟨h0, o, ho, _⟩ := mem_ready.1 hj
      have hlt : j < ops.size := (Array.getElem?_eq_some_iff.1 ho).1
      rcases (hl j hlt).1 h0 with h | h
      · obtain ⟨p, hp, rfl⟩ := List.mem_map.1 h
        have hnotin : ∀ q ∈ js, pred ops p.1 q.1 = true → q ∉ rem := fun q _ hq hr => by
          have h1 := ready_pred hj hq
          by_cases c : q.1 < ops.size
          · exact listed_not h1 ((hl q.1 c).2 (.inl (List.mem_map.2 ⟨q, hr, rfl⟩)))
          · simp [show ¬ q.1 < listed.size by omega] at h1
        refine hstep p (hsub p hp) a w hat.ext hat.held (fun t ht => ?_) (fun q hq hpr => hat.told q hq (hnotin q hq hpr)) (fun q hq r hr g1 g2 => hat.apart q hq (hnotin q hq g1) r hr (hnotin r hr g2)) _ fun v w' he hS hR hF => ⟨hS, ?_⟩
        · have := hat.out t (fun q hq _ => ht q hq)
          simp [this]
        have hps : p.2 < a.tmps.size := by rw [hat.size]; exact hsz p (hsub p hp)
        have hpe : ∀ q ∈ js, q ∈ rem.erase p ↔ q ∈ rem ∧ q ≠ p := fun q _ => by
          rw [List.Nodup.mem_erase_iff (nodup_of hnd)]; exact And.comm
        refine ih (rem.erase p) f _ _ w' (by rw [List.length_erase_of_mem hp]; omega) ?_ (fun q hq => hsub q (List.mem_of_mem_erase hq)) (by omega) (by simpa using hls) (fun k hk => ?_) ?_
        · exact List.Nodup.sublist (List.Sublist.map _ List.erase_sublist) hnd
        · rw [getD_set (by omega), hl k hk]
          constructor
          · rintro ⟨h1 | h1, h2⟩
            · obtain ⟨q, hq, rfl⟩ := List.mem_map.1 h1
              exact .inl (List.mem_map.2 ⟨q, (hpe q (hsub q hq)).2 ⟨hq, fun e => h2 (by rw [e])⟩, rfl⟩)
            · exact .inr h1
          · rintro (h1 | h1)
            · obtain ⟨q, hq, rfl⟩ := List.mem_map.1 h1
              have hq' := List.mem_of_mem_erase hq
              refine ⟨.inl (List.mem_map.2 ⟨q, hq', rfl⟩), fun e => ?_⟩
              have := (hpe q (hsub q hq')).1 hq
              exact this.2 (inj_of_nodup hnd hq' hp e)
            · refine ⟨.inr h1, fun e => ?_⟩
              subst e
              have h1' := hlast _ h1 p (hsub p hp)
              have h2' := ready_pred hj h1'
              exact listed_not h2' h0
        · refine ⟨hle.trans _ _ _ hat.ext he, hS, ?_, ?_, fun t ht => ?_, fun q hq hqr => ?_, fun q hq hqr r hr hrr hne hFq hFr b hb => ?_⟩
          · rw [← hat.defers]; rfl
          · simp [Act.put, hat.size]
          · have hpt : p.2 ≠ t := ht p (hsub p hp) (fun h => ((hpe p (hsub p hp)).1 h).2 rfl)
            simp only [Act.put, Array.getElem?_setIfInBounds_ne hpt]
            exact hat.out t fun q hq hqr => ht q hq fun h => hqr ((hpe q hq).1 h).1
          · by_cases e : q = p
            · subst e
              simpa [Act.put, hps] using hR
            · have hq' : q ∉ rem := fun h => hqr ((hpe q hq).2 ⟨h, e⟩)
              have hne : p.2 ≠ q.2 := fun h => e (inj_of_nodup2 hn2 hq (hsub p hp) h.symm)
              have := hat.told q hq hq'
              have := hmono _ _ _ _ he this
              simpa [Act.put, Array.getElem?_setIfInBounds_ne hne] using this
          · have hold : ∀ r ∈ js, r ∉ rem.erase p → r ≠ p → r ∉ rem ∧ (a.put (some p.2) v).tmps.getD r.2 undef = a.tmps.getD r.2 undef := fun r hr hrr hrp => by
              refine ⟨fun h => hrr ((hpe r hr).2 ⟨h, hrp⟩), ?_⟩
              have hne : p.2 ≠ r.2 := fun h => hrp (inj_of_nodup2 hn2 hr (hsub p hp) h.symm)
              simp [Act.put, Array.getElem?_setIfInBounds_ne hne]
            have hnew : (a.put (some p.2) v).tmps.getD p.2 undef = v := by simp [Act.put, hps]
            by_cases e : q = p
            · subst e
              obtain ⟨g1, g2⟩ := hold r hr hrr (Ne.symm hne)
              rw [hnew] at hb
              rw [g2]
              intro hb'
              have := hlt' _ _ _ hFr (hat.told r hr g1) b hb'
              have := hF hFq b hb
              omega
            · obtain ⟨g1, g2⟩ := hold q hq hqr e
              rw [g2] at hb
              by_cases e' : r = p
              · subst e'
                rw [hnew]
                intro hb'
                have := hlt' _ _ _ hFq (hat.told q hq g1) b hb
                have := hF hFr b hb'
                omega
              · obtain ⟨g3, g4⟩ := hold r hr hrr e'
                rw [g4]
                exact hat.apart q hq g1 r hr g3 hne hFq hFr b hb
      · exfalso
        obtain ⟨p, rem', rfl⟩ : ∃ p rem', rem = p :: rem' := by cases rem with | nil => simp at hlen | cons p r => exact ⟨p, r, rfl⟩
        have h1 := ready_pred hj (hlast j h p (hsub p List.mem_cons_self))
        by_cases c : p.1 < ops.size
        · exact listed_not h1 ((hl p.1 c).2 (.inl (by simp)))
        · simp [show ¬ p.1 < listed.size by omega] at h1

/-- What the kernel reckons of the region as it stands. -/
def chk (ops : Array Oper) (listed : Array Bool) (js : List (Nat × Tmp)) (last : Option Nat) (size fuel : Nat) : Bool :=
  ((List.range ops.size).all fun i => ((ops[i]?).map fun o => o.after.all fun e => !Region.binds .any e || decide (e.on < i)).getD true) &&
  decide (js.map (·.1)).Nodup && decide (js.map (·.2)).Nodup && js.all (fun p => decide (p.1 < ops.size) && decide (p.2 < size)) &&
  (match last with | some l => js.all fun p => pred ops l p.1 | none => true) &&
  decide (js.length + last.toList.length ≤ fuel) && decide (listed.size = ops.size) &&
  (List.range ops.size).all fun k => (not (listed.getD k true)) == ((js.map (·.1)).contains k || last == some k)

/-- What is left when all but the last operation, if there is one, have come up. -/
def Fin (P : Program) (ops : Array Oper) (Q : Exit → Act → World → Prop) (S : World → Prop) (a : Act) (w : World) : Option Nat → Prop
  | none => Q .normal a w
  | some l => ∀ K : Act → World → Prop, (∀ a' w', S w' → Q .normal a' w' → K a' w') → wpOp P ops Q l K a w
theorem held {js : List (Nat × Tmp)} {last : Option Nat} {R : Nat → World → Value → Prop} {a0 : Act} {w0 : World} {fuel : Nat} {listed : Array Bool} (F : Nat → Bool)
    (hc : chk ops listed js last a0.tmps.size fuel = true) (hle : Order Le) (hlt' : ∀ i w v, F i = true → R i w v → ∀ b ∈ blks v, b < w.heap.size) (hmono : ∀ i w w' v, Le w w' → R i w v → R i w' v) (hS : S w0)
    (hstep : ∀ p ∈ js, Owes Le P ops Q js R a0 w0 S F p)
    (hfin : ∀ (vs : Tmp → Value) (w : World), Le w0 w → S w → (∀ p ∈ js, R p.1 w (vs p.2)) → (∀ p ∈ js, ∀ q ∈ js, p ≠ q → F p.1 = true → F q.1 = true → ∀ b ∈ blks (vs p.2), b ∉ blks (vs q.2)) → Fin P ops Q S (lay js vs a0) w last) :
    wpAnyH P .any ops Q S fuel listed a0 w0 := by
  unfold chk at hc
  simp only [Bool.and_eq_true, decide_eq_true_eq] at hc
  obtain ⟨⟨⟨⟨⟨⟨⟨c1, c2⟩, c3⟩, c4⟩, c5⟩, c6⟩, c7⟩, c8⟩ := hc
  rw [List.all_eq_true] at c1 c4 c8
  refine run (js := js) (R := R) (a0 := a0) (w0 := w0) (F := F) hle hlt' hmono ?_ c3 ?_ ?_ hstep last ?_ ?_ ?_ js.length js fuel listed a0 w0 rfl c2 (fun _ h => h) c6 c7 ?_ ⟨hle.refl _, hS, rfl, rfl, fun _ _ => rfl, fun p hp hn => absurd hp hn, fun p hp hn => absurd hp hn⟩
  · intro i o ho e he hb
    have := c1 i (List.mem_range.2 (Array.getElem?_eq_some_iff.1 ho).1)
    rw [ho] at this
    simp only [Option.map_some, Option.getD_some, Array.all_eq_true'] at this
    have := this e he
    simpa [hb] using this
  · intro p hp
    have := c4 p hp
    simp only [Bool.and_eq_true, decide_eq_true_eq] at this
    exact this.1
  · intro p hp
    have := c4 p hp
    simp only [Bool.and_eq_true, decide_eq_true_eq] at this
    exact this.2
  · rintro l rfl p hp
    simp only [List.all_eq_true] at c5
    exact c5 p hp
  · rintro rfl a w hat
    have e := hat.done c3
    rw [e]
    exact hfin (fun t => a.tmps.getD t undef) w hat.ext hat.held (fun p hp => hat.told p hp (by simp)) fun p hp q hq => hat.apart p hp (by simp) q hq (by simp)
  · rintro l rfl a w hat
    have e := hat.done c3
    rw [e]
    exact hfin (fun t => a.tmps.getD t undef) w hat.ext hat.held (fun p hp => hat.told p hp (by simp)) fun p hp q hq => hat.apart p hp (by simp) q hq (by simp)
  · intro k hk
    have h := c8 k (List.mem_range.2 hk)
    rw [beq_iff_eq] at h
    constructor
    · intro h0
      rw [h0] at h
      have h := h.symm
      simp only [Bool.not_false, Bool.or_eq_true, List.contains_iff_mem, beq_iff_eq] at h
      exact h
    · intro h0
      have : ((js.map (·.1)).contains k || last == some k) = true := by
        simp only [Bool.or_eq_true, List.contains_iff_mem, beq_iff_eq]
        exact h0
      rw [this] at h
      simpa using h

/-- One operation without a guard. -/
theorem Owes.op {js : List (Nat × Tmp)} {R : Nat → World → Value → Prop} {a0 : Act} {w0 : World} {F : Nat → Bool} {p : Nat × Tmp} {o : Oper} (ho : ops[p.1]? = some o) (hg : o.guard = none) (hd : o.dst = some p.2)
    (h : ∀ (a : Act) (w : World), Le w0 w → S w → (∀ t : Nat, (∀ q ∈ js, q.2 ≠ t) → a.eval (.tmp t) = a0.tmps.getD t undef) → (∀ q ∈ js, pred ops p.1 q.1 = true → R q.1 w (a.eval (.tmp q.2))) →
      (∀ q ∈ js, ∀ r ∈ js, pred ops p.1 q.1 = true → pred ops p.1 r.1 = true → q ≠ r → F q.1 = true → F r.1 = true → ∀ b ∈ blks (a.eval (.tmp q.2)), b ∉ blks (a.eval (.tmp r.2))) →
      ∀ K : Act → World → Prop, (∀ v w', Le w w' → S w' → R p.1 w' v → (F p.1 = true → ∀ b ∈ blks v, w.heap.size ≤ b) → K (a.put o.dst v) w') → o.wp P a w K Q) : Owes Le P ops Q js R a0 w0 S F p := by
  intro a w he hS hout hpre hap K hK
  refine wpOp_step ho fun K' hK' => ?_
  rw [if_pos (by simp [Region.wanted, hg])]
  exact h a w he hS (fun t ht => hout t ht) (fun q hq hp => hpre q hq hp) (fun q hq r hr => hap q hq r hr) K' fun v w' h1 h2 h3 h4 => hK' _ _ (by rw [hd]; exact hK v w' h1 h2 h3 h4)

/-- The beginning. -/
theorem start {id n : Nat} {a : Act} {w : World} (hm : P.follows .mixedOrders = true) (hn : ops.size = n)
    (h : wpAnyH P .any ops Q S n (Array.replicate n false) a w.drew) : (Code.region id ops true).wp P Q a w := by
  subst hn
  exact wp_region_held hm h

/-- The last operation, without a guard. -/
theorem lastOp {l : Nat} {o : Oper} {K : Act → World → Prop} {a : Act} {w : World} (ho : ops[l]? = some o) (hg : o.guard = none)
    (h : ∀ K' : Act → World → Prop, (∀ a w, K a w → K' a w) → o.wp P a w K' Q) : wpOp P ops Q l K a w :=
  wpOp_step ho fun K' hK' => by rw [if_pos (by simp [Region.wanted, hg])]; exact h K' hK'
end
end Loose
end Go.Proofs.Ytaffcpdkmhpckaa
