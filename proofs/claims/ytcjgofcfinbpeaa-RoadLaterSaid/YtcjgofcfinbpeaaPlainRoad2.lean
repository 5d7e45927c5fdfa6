/- The plain law of searches: the examples. -/
import Derived.Test.YtcjgofcfinbpeaaD9
import Derived.Test.YtcjgofcfinbpeaaPlainRoad
namespace Go.Proofs.Ytcjgofcfinbpeaa
set_option linter.unusedVariables false
set_option linter.unusedSimpArgs false
namespace T
theorem hoursF_get (f t : Int) (k : Nat) (hk : k < 24) : (hoursF f t).getD k 0 = if k = 0 then f else t := by
  unfold hoursF
  cases k with
  | zero => rfl
  | succ k =>
    rw [List.getD_cons_succ, List.getD_eq_getElem?_getD, List.getElem?_replicate, if_pos (by omega)]; rfl
theorem tk_hours (a b : Int) (f t f' t' : Int) (hi : Bool) (u : Int) : (toArc (a, b, hoursF f t, hoursF f' t')).tk hi u = if hour u = 0 then (if hi then f' else f) else (if hi then t' else t) := by
  unfold Arc.tk Arc.row
  have := hour_lt u
  cases hi
  · exact hoursF_get f t _ this
  · exact hoursF_get f' t' _ this
theorem hour_0 {u : Int} (h : 0 ≤ u) : hour u = 0 ∨ 60 ≤ u := by
  unfold hour; omega
theorem hour_1 {u : Int} (h : 60 ≤ u) (h2 : u < 1440) : hour u ≠ 0 := by
  unfold hour; omega
/-- The least arrival is that of a time u. -/
theorem pass_at {a b f t f' t' : Int} {hi : Bool} {x p : Int} (h0 : 0 ≤ x) (h1 : x ≤ 1048576) (u : Int) (hu : x ≤ u) (hu2 : u ≤ 1048576) (e : p = u + if hour u = 0 then (if hi then f' else f) else (if hi then t' else t))
    (h : p ≤ x + (if hi then f' else f) ∧ (p ≤ x + (if hi then t' else t) ∨ x < 60 ∧ p ≤ 60 + (if hi then t' else t))) : (toArc (a, b, hoursF f t, hoursF f' t')).pass hi x = p := by
  refine Arc.pass_eq h1 ⟨⟨u, hu, hu2, by rw [tk_hours]; exact e⟩, fun v v1 v2 => ?_⟩
  rw [tk_hours]
  have := hour_0 (u := v) (by omega)
  generalize (if hi then f' else f) = F at h ⊢
  generalize (if hi then t' else t) = G at h ⊢
  split <;> omega
abbrev s0 : DArc := (0, 1, hoursF 10 5, hoursF 20 5)
abbrev s1 : DArc := (1, 2, hoursF 10 10, hoursF 10 10)
abbrev s2 : DArc := (0, 2, hoursF 40 40, hoursF 40 40)
theorem s0r : (toArc s0).right := by decide
theorem s1r : (toArc s1).right := by decide
theorem s2r : (toArc s2).right := by decide
theorem rs3 : rightR 3 someF = true := by decide
theorem rs2 : rightR 2 someF = false := by decide
theorem pf {a : Arc} (hr : a.right) {hi : Bool} {x p : Int} (h0 : 0 ≤ x) (h1 : x ≤ 1048576) (h : a.pass hi x = p) : a.passF hi x = p := by rw [Arc.passF_yes _ hr ⟨h0, h1⟩, h]
theorem p00 : (toArc s0).passF false 0 = 10 := pf s0r (by decide) (by decide) (pass_at (by decide) (by decide) 0 (by decide) (by decide) (by decide) (by decide))
theorem p20 : (toArc s2).passF false 0 = 40 := pf s2r (by decide) (by decide) (pass_at (by decide) (by decide) 0 (by decide) (by decide) (by decide) (by decide))
theorem p11 : (toArc s1).passF false 10 = 20 := pf s1r (by decide) (by decide) (pass_at (by decide) (by decide) 10 (by decide) (by decide) (by decide) (by decide))
theorem q05 : (toArc s0).passF true 50 = 65 := pf s0r (by decide) (by decide) (pass_at (by decide) (by decide) 60 (by decide) (by decide) (by decide) (by decide))
theorem q25 : (toArc s2).passF true 50 = 90 := pf s2r (by decide) (by decide) (pass_at (by decide) (by decide) 50 (by decide) (by decide) (by decide) (by decide))
theorem q16 : (toArc s1).passF true 65 = 75 := pf s1r (by decide) (by decide) (pass_at (by decide) (by decide) 65 (by decide) (by decide) (by decide) (by decide))
theorem lf {a : Arc} (hr : a.right) {b l : Int} (h0 : -1 ≤ l) (h1 : l ≤ 1048576) (h2 : 0 ≤ l → a.pass true l ≤ b) (h3 : l < 1048576 → b < a.pass true (l + 1)) : a.lastF true b = l := by rw [Arc.lastF_yes _ _ hr, last_found h0 h1 h2 h3]
theorem l17 : (toArc s1).lastF true 75 = 65 := lf s1r (by decide) (by decide) (fun _ => by rw [pass_at (p := 75) (by decide) (by decide) 65 (by decide) (by decide) (by decide) (by decide)]; decide) (fun _ => by rw [pass_at (p := 76) (by decide) (by decide) 66 (by decide) (by decide) (by decide) (by decide)]; decide)
theorem l27 : (toArc s2).lastF true 75 = 35 := lf s2r (by decide) (by decide) (fun _ => by rw [pass_at (p := 75) (by decide) (by decide) 35 (by decide) (by decide) (by decide) (by decide)]; decide) (fun _ => by rw [pass_at (p := 76) (by decide) (by decide) 36 (by decide) (by decide) (by decide) (by decide)]; decide)
theorem l06 : (toArc s0).lastF true 65 = 60 := lf s0r (by decide) (by decide) (fun _ => by rw [pass_at (p := 65) (by decide) (by decide) 60 (by decide) (by decide) (by decide) (by decide)]; decide) (fun _ => by rw [pass_at (p := 66) (by decide) (by decide) 61 (by decide) (by decide) (by decide) (by decide)]; decide)
theorem l12 : (toArc s1).lastF true 29 = 19 := lf s1r (by decide) (by decide) (fun _ => by rw [pass_at (p := 29) (by decide) (by decide) 19 (by decide) (by decide) (by decide) (by decide)]; decide) (fun _ => by rw [pass_at (p := 30) (by decide) (by decide) 20 (by decide) (by decide) (by decide) (by decide)]; decide)
theorem l22 : (toArc s2).lastF true 29 = -1 := lf s2r (by decide) (by decide) (fun h => absurd h (by decide)) (fun _ => by rw [pass_at (p := 40) (by decide) (by decide) 0 (by decide) (by decide) (by decide) (by decide)]; decide)
theorem l01 : (toArc s0).lastF true 19 = -1 := lf s0r (by decide) (by decide) (fun h => absurd h (by decide)) (fun _ => by rw [pass_at (p := 20) (by decide) (by decide) 0 (by decide) (by decide) (by decide) (by decide)]; decide)
end T
open T
theorem ex1 (f0 f1 f2 : Int → Int) (h0 : f0 0 = 10) (h2 : f2 0 = 40) (h1 : f1 10 = 20) (E : Nat → Move) (e0 : E 0 = (0, 1, f0)) (e1 : E 1 = (1, 2, f1)) (e2 : E 2 = (0, 2, f2)) : searchF false E 3 3 0 0 = [(0, -1), (10, 0), (20, 1)] := by
  simp [searchF, runF, relaxTo, pickTo, reachF, betterB, timeB, isTime, h0, h1, h2, e0, e1, e2, List.replicate, List.set]
theorem ex2 (f0 f1 f2 : Int → Int) (h0 : f0 50 = 65) (h2 : f2 50 = 90) (h1 : f1 65 = 75) (E : Nat → Move) (e0 : E 0 = (0, 1, f0)) (e1 : E 1 = (1, 2, f1)) (e2 : E 2 = (0, 2, f2)) : searchF false E 3 3 0 50 = [(50, -1), (65, 0), (75, 1)] := by
  simp [searchF, runF, relaxTo, pickTo, reachF, betterB, timeB, isTime, h0, h1, h2, e0, e1, e2, List.replicate, List.set]
theorem ex3 (f0 f1 f2 : Int → Int) (E : Nat → Move) (e0 : E 0 = (0, 1, f0)) (e1 : E 1 = (1, 2, f1)) (e2 : E 2 = (0, 2, f2)) : searchF false E 3 3 2 0 = [(-1, -1), (-1, -1), (0, -1)] := by
  simp [searchF, runF, relaxTo, pickTo, reachF, betterB, timeB, isTime, e0, e1, e2, List.replicate, List.set]
theorem ex4 (f0 f1 f2 : Int → Int) (h0 : f1 75 = 65) (h2 : f2 75 = 35) (h1 : f0 65 = 60) (E : Nat → Move) (e0 : E 0 = (1, 0, f0)) (e1 : E 1 = (2, 1, f1)) (e2 : E 2 = (2, 0, f2)) : searchF true E 3 3 2 75 = [(60, 0), (65, 1), (75, -1)] := by
  simp [searchF, runF, relaxTo, pickTo, reachF, betterB, timeB, isTime, h0, h1, h2, e0, e1, e2, List.replicate, List.set]
theorem ex5 (f0 f1 f2 : Int → Int) (h0 : f1 29 = 19) (h2 : f2 29 = -1) (h1 : f0 19 = -1) (E : Nat → Move) (e0 : E 0 = (1, 0, f0)) (e1 : E 1 = (2, 1, f1)) (e2 : E 2 = (2, 0, f2)) : searchF true E 3 3 2 29 = [(-1, -1), (19, 1), (29, -1)] := by
  simp [searchF, runF, relaxTo, pickTo, reachF, betterB, timeB, isTime, h0, h1, h2, e0, e1, e2, List.replicate, List.set]
theorem ey1 : earlyF 3 someF 0 0 false = ([(0, -1), (10, 0), (20, 1)], 0, ()) := by
  unfold earlyF
  rw [rs3, if_neg (by decide), show searchF false (moveE someF false) someF.length (3 : Int).toNat (0 : Int).toNat 0 = _ from ex1 _ _ _ p00 p20 p11 (moveE someF false) rfl rfl rfl]
theorem ey2 : earlyF 3 someF 0 50 true = ([(50, -1), (65, 0), (75, 1)], 0, ()) := by
  unfold earlyF
  rw [rs3, if_neg (by decide), show searchF false (moveE someF true) someF.length (3 : Int).toNat (0 : Int).toNat 50 = _ from ex2 _ _ _ q05 q25 q16 (moveE someF true) rfl rfl rfl]
theorem ey3 : earlyF 3 someF 2 0 true = ([(-1, -1), (-1, -1), (0, -1)], 0, ()) := by
  unfold earlyF
  rw [rs3, if_neg (by decide), show searchF false (moveE someF true) someF.length (3 : Int).toNat (2 : Int).toNat 0 = _ from ex3 _ _ _ (moveE someF true) rfl rfl rfl]
theorem ey4 : lateF 3 someF 2 75 = ([(60, 0), (65, 1), (75, -1)], 0, ()) := by
  unfold lateF
  rw [rs3, if_neg (by decide), show searchF true (moveL someF) someF.length (3 : Int).toNat (2 : Int).toNat 75 = _ from ex4 _ _ _ l17 l27 l06 (moveL someF) rfl rfl rfl]
theorem ey5 : lateF 3 someF 2 29 = ([(-1, -1), (19, 1), (29, -1)], 0, ()) := by
  unfold lateF
  rw [rs3, if_neg (by decide), show searchF true (moveL someF) someF.length (3 : Int).toNat (2 : Int).toNat 29 = _ from ex5 _ _ _ l12 l22 l01 (moveL someF) rfl rfl rfl]
theorem ey6 : wayF [(0, -1), (10, 0), (20, 1)] someF 2 = [0, 1] := by decide
end Go.Proofs.Ytcjgofcfinbpeaa
