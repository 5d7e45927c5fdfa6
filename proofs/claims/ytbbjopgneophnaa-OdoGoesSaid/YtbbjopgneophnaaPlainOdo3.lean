/- The plain law of drives: the examples. -/
import Derived.Test.YtbbjopgneophnaaPlainOdo2
namespace Go.Proofs.Ytbbjopgneophnaa
set_option linter.unusedVariables false
set_option linter.unusedSimpArgs false
open T
namespace T
def arcF (f t : Int) : DArc := (f, t, List.replicate 24 10, List.replicate 24 20)
theorem tk45 (a b : Int) (hi : Bool) (u : Int) : (toArc (arcF a b)).tk hi u = if hi then 20 else 10 := by
  unfold Arc.tk Arc.row
  have := hour_lt u
  cases hi
  · show (List.replicate 24 (10 : Int)).getD (hour u) 0 = 10
    rw [List.getD_eq_getElem?_getD, List.getElem?_replicate, if_pos this]; rfl
  · show (List.replicate 24 (20 : Int)).getD (hour u) 0 = 20
    rw [List.getD_eq_getElem?_getD, List.getElem?_replicate, if_pos this]; rfl
theorem pass45 {a b : Int} (hr : (toArc (arcF a b)).right) {x : Int} (h0 : 0 ≤ x) (h1 : x ≤ 1048576) : (toArc (arcF a b)).passF false x = x + 10 := by
  rw [Arc.passF_yes _ hr ⟨h0, h1⟩]
  refine Arc.pass_eq h1 ⟨⟨x, Int.le_refl _, h1, by rw [tk45]; rfl⟩, fun v v1 v2 => ?_⟩
  rw [tk45]
  show x + 10 ≤ v + 10
  omega
abbrev A45 : List DArc := [arcF 0 1, arcF 1 2]
theorem r45a : (toArc (arcF 0 1)).right := by decide
theorem r45b : (toArc (arcF 1 2)).right := by decide
theorem rA45 : rightR 3 A45 = true := by decide
end T
theorem ez1 (f0 f1 : Int → Int) (h0 : f0 0 = 10) (h1 : f1 10 = 20) (E : Nat → Move) (e0 : E 0 = (0, 1, f0)) (e1 : E 1 = (1, 2, f1)) : searchF false E 2 3 0 0 = [(0, -1), (10, 0), (20, 1)] := by
  simp [searchF, runF, relaxTo, pickTo, reachF, betterB, timeB, isTime, h0, h1, e0, e1, List.replicate, List.set]
theorem ez2 (f0 f1 : Int → Int) (h1 : f1 10 = 20) (E : Nat → Move) (e0 : E 0 = (0, 1, f0)) (e1 : E 1 = (1, 2, f1)) : searchF false E 2 3 1 10 = [(-1, -1), (10, -1), (20, 1)] := by
  simp [searchF, runF, relaxTo, pickTo, reachF, betterB, timeB, isTime, h1, e0, e1, List.replicate, List.set]
theorem ez3 (f0 f1 : Int → Int) (E : Nat → Move) (e0 : E 0 = (0, 1, f0)) (e1 : E 1 = (1, 2, f1)) : searchF false E 2 3 2 30 = [(-1, -1), (-1, -1), (30, -1)] := by
  simp [searchF, runF, relaxTo, pickTo, reachF, betterB, timeB, isTime, e0, e1, List.replicate, List.set]
theorem ew1 : earlyF 3 A45 0 0 false = ([(0, -1), (10, 0), (20, 1)], 0, ()) := by
  unfold earlyF
  rw [rA45, if_neg (by decide), show searchF false (moveE A45 false) A45.length (3 : Int).toNat (0 : Int).toNat 0 = _ from ez1 _ _ (pass45 r45a (by decide) (by decide)) (pass45 r45b (by decide) (by decide)) (moveE A45 false) rfl rfl]
theorem ew2 : earlyF 3 A45 1 10 false = ([(-1, -1), (10, -1), (20, 1)], 0, ()) := by
  unfold earlyF
  rw [rA45, if_neg (by decide), show searchF false (moveE A45 false) A45.length (3 : Int).toNat (1 : Int).toNat 10 = _ from ez2 _ _ (pass45 r45b (by decide) (by decide)) (moveE A45 false) rfl rfl]
theorem ew3 : earlyF 3 A45 2 30 false = ([(-1, -1), (-1, -1), (30, -1)], 0, ()) := by
  unfold earlyF
  rw [rA45, if_neg (by decide), show searchF false (moveE A45 false) A45.length (3 : Int).toNat (2 : Int).toNat 30 = _ from ez3 _ _ (moveE A45 false) rfl rfl]
theorem ea1 : earliestF 3 A45 (0, 0, 5) 1 = (10, 0, ()) := by
  unfold earliestF
  rw [show earlyF 3 A45 ((0, 0, 5) : DDrv).2.1 ((0, 0, 5) : DDrv).1 false = _ from ew1]
  rw [if_neg (by decide), if_neg (by decide)]; rfl
theorem ea2 : earliestF 3 A45 (0, 0, 5) 2 = (20, 0, ()) := by
  unfold earliestF
  rw [show earlyF 3 A45 ((0, 0, 5) : DDrv).2.1 ((0, 0, 5) : DDrv).1 false = _ from ew1]
  rw [if_neg (by decide), if_neg (by decide)]; rfl
theorem ea3 : earliestF 3 A45 (10, 1, 6) 2 = (20, 0, ()) := by
  unfold earliestF
  rw [show earlyF 3 A45 ((10, 1, 6) : DDrv).2.1 ((10, 1, 6) : DDrv).1 false = _ from ew2]
  rw [if_neg (by decide), if_neg (by decide)]; rfl
theorem ea4 : earliestF 3 A45 (30, 2, 9) 0 = (0, 4, ()) := by
  unfold earliestF
  rw [show earlyF 3 A45 ((30, 2, 9) : DDrv).2.1 ((30, 2, 9) : DDrv).1 false = _ from ew3]
  rw [if_neg (by decide), if_pos (by decide)]
theorem ep1 : possibleF 3 A45 [(0, 0, 5), (10, 1, 6), (30, 2, 9)] = (0, 0, ()) := by
  unfold possibleF
  rw [if_pos ⟨rA45, by decide⟩]
  have b1 : ¬ badAt 3 A45 [(0, 0, 5), (10, 1, 6), (30, 2, 9)] 1 := by
    unfold badAt
    rw [show earliestF 3 A45 (([(0, 0, 5), (10, 1, 6), (30, 2, 9)] : List DDrv).getD (1 - 1) (0, 0, 0)) (([(0, 0, 5), (10, 1, 6), (30, 2, 9)] : List DDrv).getD 1 (0, 0, 0)).2.1 = _ from ea1]
    decide
  have b2 : ¬ badAt 3 A45 [(0, 0, 5), (10, 1, 6), (30, 2, 9)] 2 := by
    unfold badAt
    rw [show earliestF 3 A45 (([(0, 0, 5), (10, 1, 6), (30, 2, 9)] : List DDrv).getD (2 - 1) (0, 0, 0)) (([(0, 0, 5), (10, 1, 6), (30, 2, 9)] : List DDrv).getD 2 (0, 0, 0)).2.1 = _ from ea3]
    decide
  show possGo 3 A45 _ 2 1 = _
  rw [possGo, if_neg b1, possGo, if_neg b2]; rfl
theorem ep2 : possibleF 3 A45 [(0, 0, 5), (19, 2, 9)] = (1, 19, ()) := by
  unfold possibleF
  rw [if_pos ⟨rA45, by decide⟩]
  have b1 : badAt 3 A45 [(0, 0, 5), (19, 2, 9)] 1 := by
    unfold badAt
    rw [show earliestF 3 A45 (([(0, 0, 5), (19, 2, 9)] : List DDrv).getD (1 - 1) (0, 0, 0)) (([(0, 0, 5), (19, 2, 9)] : List DDrv).getD 1 (0, 0, 0)).2.1 = _ from ea2]
    decide
  show possGo 3 A45 _ 1 1 = _
  rw [possGo, if_pos b1]; rfl
theorem ep3 : possibleF 3 A45 [(0, 0, 5), (30, 2, 9), (90, 0, 20)] = (2, 19, ()) := by
  unfold possibleF
  rw [if_pos ⟨rA45, by decide⟩]
  have b1 : ¬ badAt 3 A45 [(0, 0, 5), (30, 2, 9), (90, 0, 20)] 1 := by
    unfold badAt
    rw [show earliestF 3 A45 (([(0, 0, 5), (30, 2, 9), (90, 0, 20)] : List DDrv).getD (1 - 1) (0, 0, 0)) (([(0, 0, 5), (30, 2, 9), (90, 0, 20)] : List DDrv).getD 1 (0, 0, 0)).2.1 = _ from ea2]
    decide
  have b2 : badAt 3 A45 [(0, 0, 5), (30, 2, 9), (90, 0, 20)] 2 := by
    unfold badAt
    rw [show earliestF 3 A45 (([(0, 0, 5), (30, 2, 9), (90, 0, 20)] : List DDrv).getD (2 - 1) (0, 0, 0)) (([(0, 0, 5), (30, 2, 9), (90, 0, 20)] : List DDrv).getD 2 (0, 0, 0)).2.1 = _ from ea4]
    decide
  show possGo 3 A45 _ 2 1 = _
  rw [possGo, if_neg b1, possGo, if_pos b2]; rfl
theorem ek1 : keptF ((0, 0, 2, 0, 5, 30, 30, 0, 0, 0), 0, 0, 0, 0, 0) [(0, 0, 5), (10, 1, 6), (30, 2, 9)] = true :=
  decide_eq_true ⟨0, 2, by decide, by decide, by unfold pairB; decide⟩
theorem ek2 : keptF ((0, 0, 2, 0, 5, 30, 29, 0, 0, 0), 0, 0, 0, 0, 0) [(0, 0, 5), (10, 1, 6), (30, 2, 9)] = false := by
  refine decide_eq_false ?_
  rintro ⟨i, k, hik, hk, hp⟩
  have hk' : k < 3 := hk
  have c1 : i = 0 ∨ i = 1 ∨ i = 2 := by omega
  have c2 : k = 0 ∨ k = 1 ∨ k = 2 := by omega
  unfold pairB at hp
  rcases c1 with rfl | rfl | rfl <;> rcases c2 with rfl | rfl | rfl <;> revert hp <;> decide
theorem er1 : rightDF 3 [(0, 0, 5), (10, 1, 6), (30, 2, 9)] = true := by decide
theorem in45 : ∀ d : DDrv, d = (0, 0, 5) ∨ d = (10, 1, 6) ∨ d = (30, 2, 9) → -1099511627776 ≤ d.1 ∧ d.1 ≤ 1099511627776 := by
  rintro d (rfl | rfl | rfl) <;> decide
end Go.Proofs.Ytbbjopgneophnaa
