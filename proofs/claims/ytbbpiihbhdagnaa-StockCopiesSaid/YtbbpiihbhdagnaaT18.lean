/- Typed abstract walk, part 18: loops, the everyday form. -/
import Derived.Test.YtbbpiihbhdagnaaT17
namespace Go.Proofs.Ytbbpiihbhdagnaa
set_option linter.unusedVariables false
set_option linter.unusedSimpArgs false
open Go.RowKit
namespace T
mutual
def ren1 : AV → AV → List (Nat × Nat)
  | .own l, y => match y with
    | .own k => [(l, k)]
    | _ => []
  | .ptr l _, y => match y with
    | .ptr k _ => [(l, k)]
    | _ => []
  | .arr l _, y => match y with
    | .arr k _ => [(l, k)]
    | _ => []
  | .agg cs, y => match y with
    | .agg ds => rens cs ds
    | _ => []
  | .tup cs, y => match y with
    | .tup ds => rens cs ds
    | _ => []
  | .clo _ cs, y => match y with
    | .clo _ ds => rens cs ds
    | _ => []
  | .bnd _ cs, y => match y with
    | .bnd _ ds => rens cs ds
    | _ => []
  | .yl l _ cs, y => match y with
    | .yl k _ ds => (l, k) :: rens cs ds
    | _ => []
  | _, _ => []
def rens : List AV → List AV → List (Nat × Nat)
  | [], _ => []
  | x :: r, ys => match ys with
    | y :: s => ren1 x y ++ rens r s
    | [] => []
end
/-- The pairs whose name is of the heap, each name once. -/
def tidy (hp : List (Nat × OB)) : List (Nat × Nat) → List (Nat × Nat) → List (Nat × Nat)
  | acc, [] => acc
  | acc, p :: r => if acc.any (fun q => q.1 == p.1) || !(hp.any fun q => q.1 == p.1) then tidy hp acc r else tidy hp (acc ++ [p]) r
def renB (hs hp : List (Nat × OB)) : List (Nat × Nat) → List (Nat × Nat)
  | [] => []
  | p :: r => (match look hs p.1, look hp p.2 with
    | some (.box _ cs), some (.box _ ds) => rens cs ds
    | _, _ => []) ++ renB hs hp r
def rensT (src : List (Nat × AV)) : List (Nat × AV) → List (Nat × Nat)
  | [] => []
  | (k, v) :: r => ren1 v (tmG src k) ++ rensT src r
def autoρ (st s : AS) : List (Nat × Nat) :=
  let ρ := tidy s.hp [] (rensT st.tm s.tm)
  tidy s.hp ρ (renB s.hp st.hp ρ)
def le' (st s : AS) : Prop := asle (autoρ st s) st s
/-- Shown only where the state has been computed. -/
def leQ (s t : AS) : Prop := le' s t
theorem leQ_mk {a : List (Nat × AV)} {b : List (Nat × OB)} {c : Nat} {d : List Nat} {t : AS} : leQ ⟨a, b, c, d⟩ t = le' ⟨a, b, c, d⟩ t := rfl
def put1 (l : Nat) (ob : OB) : List (Nat × OB) → List (Nat × OB)
  | [] => [(l, ob)]
  | (k, o) :: r => if k = l then (l, ob) :: r else (k, o) :: put1 l ob r
def puts : List (Nat × OB) → List (Nat × OB) → List (Nat × OB)
  | h, [] => h
  | h, (l, ob) :: r => puts (put1 l ob h) r
def keep (h : List (Nat × OB)) (ls : List Nat) : List (Nat × OB) := h.filter fun p => ls.contains p.1
/-- The slots at a loop's head: those that are named, and the others that are kept and that the loop does not write, as they were. -/
def headT (tm : List (Nat × AV)) (kv ds : List Nat) (live : List (Nat × AV)) : List (Nat × AV) :=
  live ++ (kv.filter fun k => !(ds.contains k || live.any fun p => p.1 == k)).map fun k => (k, tmG tm k)
/-- The state at a loop's head; N: the names are below it. -/
def headOf (st : AS) (N : Nat) (ds : List Nat) (live : List (Nat × AV)) (ls : List Nat) (hp : List (Nat × OB)) : AS := ⟨headT st.tm st.kv ds live, puts (keep st.hp ls) hp, N, st.kv⟩
section
variable {P : Program} {C : List Ent} {n : Nat}
theorem hasLp_mono {s : AS} {t l : Nat} {b : Bool} {r : Loop} {K K' : Prop} (h : K → K') (q : hasLp s t l b r K) : hasLp s t l b r K' := by
  unfold hasLp at q ⊢
  split at q
  · split at q
    · exact ⟨q.1, q.2.1, q.2.2.1, h q.2.2.2⟩
    · exact q
  · exact q
theorem rnd_mono {f f' : AS → Prop} (h : ∀ s, f s → f' s) : ∀ e s, XQ.rnd f e s → XQ.rnd f' e s := fun e s q => by
  cases e with
  | normal => exact h s q
  | exit i => exact q
  | ret => exact q
theorem xwp_mono : ∀ {c : XC} {Q Q' : XQ} {s : AS}, (∀ e s, Q e s → Q' e s) → xwp P C n c Q s → xwp P C n c Q' s := by
  have key : ∀ (c : XC) (n : Nat) (Q Q' : XQ) (s : AS), (∀ e s, Q e s → Q' e s) → xwp P C n c Q s → xwp P C n c Q' s := by
    intro c
    induction c with
    | skip => intro n Q Q' s h q; exact h _ _ q
    | ret => intro n Q Q' s h q; exact h _ _ q
    | exit i => intro n Q Q' s h q; exact h _ _ q
    | reg d xs =>
      intro n Q Q' s h q
      unfold xwp at q ⊢
      split at q
      · exact ⟨q.1, h _ _ q.2⟩
      · exact q
    | seq x y ihx ihy =>
      intro n Q Q' s h q
      refine ihx _ _ _ s (fun e s q => ?_) q
      cases e with
      | normal => exact ihy _ _ _ s h q
      | exit i => exact h _ _ q
      | ret => exact h _ _ q
    | cond c x y ihx ihy =>
      intro n Q Q' s h q
      unfold xwp at q ⊢
      split at q
      · exact ⟨fun t => ihx _ _ _ s h (q.1 t), fun t => ihy _ _ _ s h (q.2 t)⟩
      · exact q
    | block id x ih =>
      intro n Q Q' s h q
      refine ih _ _ _ s (fun e s q => ?_) q
      cases e with
      | normal => exact h _ _ q
      | exit i =>
        simp only [XQ.blk] at q ⊢
        split at q
        · rename_i e; rw [if_pos e]; exact h _ _ q
        · rename_i e; rw [if_neg e]; exact h _ _ q
      | ret => exact h _ _ q
    | clean x ih => intro n Q Q' s h q; exact ih _ _ _ _ h q
    | icall d pre cx post f n' res kv body ih =>
      intro n Q Q' s h q
      unfold xwp at q ⊢
      split at q
      · rename_i p s1 hr
        refine ⟨q.1, ?_⟩
        obtain ⟨_, q⟩ := q
        split at q
        · refine ⟨q.1, q.2.1, ih _ _ _ _ (fun e s q => ?_) q.2.2⟩
          have hA : ∀ s, afterI C post Q s → afterI C post Q' s := fun s q => by
            unfold afterI at q ⊢
            split at q
            · exact ⟨q.1, h _ _ q.2⟩
            · exact q
          cases e with
          | exit i => exact q
          | normal =>
            simp only [backQ] at q ⊢
            split at q
            · exact hA _ q
            · exact q
          | ret =>
            simp only [backQ] at q ⊢
            split at q
            · exact hA _ q
            · exact q
        · exact q
      · exact q
    | dead => intro n Q Q' s h q; exact q
    | nxt d t post =>
      intro n Q Q' s h q
      have hA : ∀ s, afterI C post Q s → afterI C post Q' s := fun s q => by
        unfold afterI at q ⊢
        split at q
        · exact ⟨q.1, h _ _ q.2⟩
        · exact q
      unfold xwp at q ⊢
      split at q
      · split at q
        · exact ⟨fun e => hA _ (q.1 e), fun i p e => hA _ (q.2 i p e)⟩
        · exact q
      · exact q
    | top x _ =>
      intro n Q Q' s h q code hc hC B M w0 ψ a w sim ro hR
      exact wpIn_mono (q code hc hC B M w0 ψ a w sim ro hR) fun e a w q => lift_mono h e a w q
    | rfor g p xA xB f n' kv body _ _ ih =>
      intro n Q Q' s h q
      unfold xwp at q ⊢
      split at q
      · obtain ⟨q1, q2, q3, q4, q5⟩ := q
        refine ⟨q1, q2, q3, q4, fun r hr => ih _ _ _ _ (fun e s q => ?_) (q5 r hr)⟩
        cases e with
        | exit i => exact q
        | normal => exact hasLp_mono (h _ _) q
        | ret => exact hasLp_mono (h _ _) q
      · exact q
    | yld pre cx post ky nE p kvB xA xB ihA ihB =>
      intro n Q Q' s h q
      unfold xwp at q ⊢
      split at q
      · refine ⟨q.1, ?_⟩
        obtain ⟨_, q⟩ := q
        split at q
        · split at q
          · obtain ⟨q1, q2, q3, q4, q5⟩ := q
            refine ⟨q1, q2, q3, q4, hasLp_mono (ihA _ _ _ _ (rnd_mono fun s => hasLp_mono (ihB _ _ _ _ (rnd_mono fun s => hasLp_mono fun q => ?_)))) q5⟩
            unfold afterI at q ⊢
            split at q
            · exact ⟨q.1, h _ _ q.2⟩
            · exact q
          · exact q
        · exact q
      · exact q
    | loop x _ =>
      intro n Q Q' s h q code hc hC B M w0 ψ a w sim ro hR
      exact wpIn_mono (q code hc hC B M w0 ψ a w sim ro hR) fun e a w q => lift_mono h e a w q
  intro c Q Q' s h q
  exact key c n Q Q' s h q
/-- The rule of loops. -/
theorem XW_for {b : XC} {Q : XQ} {st : AS} (N : Nat) (ds ls : List Nat) (X : Type) (live : X → List (Nat × AV)) (hp : X → List (Nat × OB)) (inv : X → Prop) (μ : X → Nat) (x0 : X) (h0 : le' st (headOf st N ds (live x0) ls (hp x0))) (hi : inv x0)
    (hr : ∀ x, inv x → xwp P C n b (XQ.seq (fun s => ∃ x', μ x' < μ x ∧ inv x' ∧ leQ s (headOf st N ds (live x') ls (hp x'))) Q) (headOf st N ds (live x) ls (hp x))) : XW P C n (.loop b) Q st := by
  refine XW_loop X (fun x => headOf st N ds (live x) ls (hp x)) inv μ x0 (le_of h0) hi fun x hx => ?_
  refine xwp_mono (fun e s q => ?_) (hr x hx)
  cases e with
  | normal => obtain ⟨x', h1, h2, h3⟩ := q; exact ⟨x', h1, h2, le_of h3⟩
  | exit i => exact q
  | ret => exact q
/-- A loop whose first round starts from a state of its own. -/
theorem XW_first {b : XC} {Q : XQ} {st : AS} (N : Nat) (ds ls : List Nat) (X : Type) (live : X → List (Nat × AV)) (hp : X → List (Nat × OB)) (inv : X → Prop) (μ : X → Nat) (m : Nat)
    (h1 : xwp P C n b (XQ.seq (fun s => ∃ x', μ x' < m ∧ inv x' ∧ leQ s (headOf st N ds (live x') ls (hp x'))) Q) st)
    (hr : ∀ x, inv x → xwp P C n b (XQ.seq (fun s => ∃ x', μ x' < μ x ∧ inv x' ∧ leQ s (headOf st N ds (live x') ls (hp x'))) Q) (headOf st N ds (live x) ls (hp x))) : XW P C n (.loop b) Q st := by
  refine XW_loop (Option X) (fun x => match x with | none => st | some x => headOf st N ds (live x) ls (hp x)) (fun x => match x with | none => True | some x => inv x) (fun x => match x with | none => m | some x => μ x) none (fun B M w0 ψ a w q => ⟨ψ, q⟩) trivial fun x hx => ?_
  cases x with
  | none =>
    refine xwp_mono (fun e s q => ?_) h1
    cases e with
    | normal => obtain ⟨x', h1, h2, h3⟩ := q; exact ⟨some x', h1, h2, le_of h3⟩
    | exit i => exact q
    | ret => exact q
  | some x =>
    refine xwp_mono (fun e s q => ?_) (hr x hx)
    cases e with
    | normal => obtain ⟨x', h1, h2, h3⟩ := q; exact ⟨some x', h1, h2, le_of h3⟩
    | exit i => exact q
    | ret => exact q
end
end T
end Go.Proofs.Ytbbpiihbhdagnaa
