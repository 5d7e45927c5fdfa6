/- Typed abstract walk, part 18: loops, the everyday form. -/
import Derived.Test.YtaffcpdkmhpckaaT17
namespace Go.Proofs.Ytaffcpdkmhpckaa
set_option linter.unusedVariables false
set_option linter.unusedSimpArgs false
open Go.RowKit
namespace T
mutual
def ren1 : AV → AV → List (Nat × Nat)
  | .own l, y => match y with
    | .own k => [(l, k)]
    | _ => []
  | .ptr l _, y => match y with
    | .ptr k _ => [(l, k)]
    | _ => []
  | .agg cs, y => match y with
    | .agg ds => rens cs ds
    | _ => []
  | .tup cs, y => match y with
    | .tup ds => rens cs ds
    | _ => []
  | .clo _ cs, y => match y with
    | .clo _ ds => rens cs ds
    | _ => []
  | _, _ => []
def rens : List AV → List AV → List (Nat × Nat)
  | [], _ => []
  | x :: r, ys => match ys with
    | y :: s => ren1 x y ++ rens r s
    | [] => []
end
/-- The pairs whose name is of the heap, each name once. -/
def tidy (hp : List (Nat × OB)) : List (Nat × Nat) → List (Nat × Nat) → List (Nat × Nat)
  | acc, [] => acc
  | acc, p :: r => if acc.any (fun q => q.1 == p.1) || !(hp.any fun q => q.1 == p.1) then tidy hp acc r else tidy hp (acc ++ [p]) r
def renB (hs hp : List (Nat × OB)) : List (Nat × Nat) → List (Nat × Nat)
  | [] => []
  | p :: r => (match look hs p.1, look hp p.2 with
    | some (.box _ cs), some (.box _ ds) => rens cs ds
    | _, _ => []) ++ renB hs hp r
def autoρ (st s : AS) : List (Nat × Nat) :=
  let ρ := tidy s.hp [] (rens s.tm st.tm)
  tidy s.hp ρ (renB s.hp st.hp ρ)
def le' (st s : AS) : Prop := asle (autoρ st s) st s
def sets : List AV → List (Nat × AV) → List AV
  | l, [] => l
  | l, (i, v) :: r => sets (l.set i v) r
def tops : List AV → List Nat → List AV
  | l, [] => l
  | l, i :: r => tops (l.set i .top) r
def put1 (l : Nat) (ob : OB) : List (Nat × OB) → List (Nat × OB)
  | [] => [(l, ob)]
  | (k, o) :: r => if k = l then (l, ob) :: r else (k, o) :: put1 l ob r
def puts : List (Nat × OB) → List (Nat × OB) → List (Nat × OB)
  | h, [] => h
  | h, (l, ob) :: r => puts (put1 l ob h) r
def keep (h : List (Nat × OB)) (ls : List Nat) : List (Nat × OB) := h.filter fun p => ls.contains p.1
/-- The state at a loop's head: the first slots as they were, but for those that the loop writes; the own blocks that are named, changed. -/
def headOf (st : AS) (nv : Nat) (ds : List Nat) (live : List (Nat × AV)) (ls : List Nat) (hp : List (Nat × OB)) : AS :=
  ⟨sets (tops (st.tm.take nv) ds) live ++ List.replicate (st.tm.length - nv) .top, puts (keep st.hp ls) hp, st.nx⟩
section
variable {P : Program} {C : List Ent} {n : Nat}
theorem XW_for {b : XC} {Q : XQ} {st : AS} (nv : Nat) (ds ls : List Nat) (X : Type) (live : X → List (Nat × AV)) (hp : X → List (Nat × OB)) (inv : X → Prop) (μ : X → Nat) (x0 : X) (h0 : le' st (headOf st nv ds (live x0) ls (hp x0))) (hi : inv x0)
    (hr : ∀ x, inv x → xwp P C n b (XQ.seq (fun s => ∃ x', μ x' < μ x ∧ inv x' ∧ le' s (headOf st nv ds (live x') ls (hp x'))) Q) (headOf st nv ds (live x) ls (hp x))) : XW P C n (.loop b) Q st := by
  refine XW_loop X (fun x => headOf st nv ds (live x) ls (hp x)) inv μ x0 (le_of h0) hi fun x hx => ?_
  have key : ∀ (c : XC) (Q Q' : XQ) (s : AS), (∀ e s, Q e s → Q' e s) → xwp P C n c Q s → xwp P C n c Q' s := by
    intro c
    induction c with
    | skip => intro Q Q' s h q; exact h _ _ q
    | ret => intro Q Q' s h q; exact h _ _ q
    | exit i => intro Q Q' s h q; exact h _ _ q
    | reg d xs =>
      intro Q Q' s h q
      unfold xwp at q ⊢
      split at q
      · exact ⟨q.1, h _ _ q.2⟩
      · exact q
    | seq x y ihx ihy =>
      intro Q Q' s h q
      refine ihx _ _ s (fun e s q => ?_) q
      cases e with
      | normal => exact ihy _ _ s h q
      | exit i => exact h _ _ q
      | ret => exact h _ _ q
    | cond c x y ihx ihy =>
      intro Q Q' s h q
      unfold xwp at q ⊢
      split at q
      · exact ⟨fun t => ihx _ _ s h (q.1 t), fun t => ihy _ _ s h (q.2 t)⟩
      · exact q
    | block id x ih =>
      intro Q Q' s h q
      refine ih _ _ s (fun e s q => ?_) q
      cases e with
      | normal => exact h _ _ q
      | exit i =>
        simp only [XQ.blk] at q ⊢
        split at q
        · rename_i e; rw [if_pos e]; exact h _ _ q
        · rename_i e; rw [if_neg e]; exact h _ _ q
      | ret => exact h _ _ q
    | loop x _ =>
      intro Q Q' s h q code hc hC B M w0 ψ a w sim
      exact wp_mono (q code hc hC B M w0 ψ a w sim) fun e a w q => lift_mono h e a w q
  refine key b _ _ _ (fun e s q => ?_) (hr x hx)
  cases e with
  | normal => obtain ⟨x', h1, h2, h3⟩ := q; exact ⟨x', h1, h2, le_of h3⟩
  | exit i => exact q
  | ret => exact q
end
end T
end Go.Proofs.Ytaffcpdkmhpckaa
