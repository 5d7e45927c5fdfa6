/- GaugeRides, by the typed walk. -/
import Derived.Test.YtaffcpdkmhpckaaG4
import Derived.Test.YtaffcpdkmhpckaaPlainGauge3
namespace Go.Proofs.Ytaffcpdkmhpckaa
set_option linter.unusedVariables false
set_option linter.unusedSimpArgs false
open Go.RowKit Go.IntWalk
theorem tight_high (a : Arc) (l : List Obs) (u : Int) : (a.tight l).tk true u ≤ a.tk true u := by
  unfold Arc.tk Arc.row
  simp only [if_true]
  rw [tight_H (hour_lt u)]
  exact highAt_le a l _
theorem tight_low (a : Arc) (l : List Obs) (u : Int) : a.tk false u ≤ (a.tight l).tk false u := by
  unfold Arc.tk Arc.row
  simp only [Bool.false_eq_true, if_false]
  rw [tight_L (hour_lt u)]
  exact lowAt_ge a l _
namespace T
theorem passF_range (a : Arc) (hi : Bool) (t : Int) : IntKind.i64.min ≤ a.passF hi t ∧ a.passF hi t ≤ IntKind.i64.max := by
  unfold Arc.passF
  split
  · rename_i h
    obtain ⟨⟨h1, h2⟩, h3⟩ := Arc.validB_true h
    have := a.pass_bd h3 hi h2
    have := a.tk_bd h3 hi t
    exact small_i64 (by omega)
  · exact small_i64 (by omega)
theorem lastF_range (a : Arc) (hi : Bool) (t : Int) : IntKind.i64.min ≤ a.lastF hi t ∧ a.lastF hi t ≤ IntKind.i64.max := by
  unfold Arc.lastF
  split
  · obtain ⟨h1, h2, _⟩ := a.last_is hi t
    exact small_i64 (by omega)
  · exact small_i64 (by omega)
theorem conPass : Con Try.prog entPass := by
  refine ⟨by kernel_rfl, ?_⟩
  rintro ⟨x, t, hi, _⟩ _ w M vs hM ⟨v, _, rfl, q, v1, _, rfl, q1, v2, _, rfl, q2, rfl⟩
  obtain ⟨rfl, _⟩ := avr_int (hp := fun _ => none) (ψ := fun _ => undef) q1
  obtain rfl := avr_bool (hp := fun _ => none) (ψ := fun _ => undef) q2
  refine (Clock.pass_any (arc_is q).1 t hi).mono ?_
  rintro e w' ⟨rfl, hb⟩
  exact ⟨_, rfl, hb, int_avr (hp := fun _ => none) (ψ := fun _ => undef) (passF_range _ _ _)⟩
theorem conLast : Con Try.prog entLast := by
  refine ⟨by kernel_rfl, ?_⟩
  rintro ⟨x, t, hi, _⟩ _ w M vs hM ⟨v, _, rfl, q, v1, _, rfl, q1, v2, _, rfl, q2, rfl⟩
  obtain ⟨rfl, _⟩ := avr_int (hp := fun _ => none) (ψ := fun _ => undef) q1
  obtain rfl := avr_bool (hp := fun _ => none) (ψ := fun _ => undef) q2
  refine (Clock.last_any (arc_is q).1 t hi).mono ?_
  rintro e w' ⟨rfl, hb⟩
  exact ⟨_, rfl, hb, int_avr (hp := fun _ => none) (ψ := fun _ => undef) (lastF_range _ _ _)⟩
def entRides : Ent := ⟨7, .cons (.st (.cons (.int .i64) (.cons (.int .i64) (.cons (.sl (.int .i64)) (.sl (.int .i64)))))) (.cons (.sl (.st (.cons (.int .i64) (.int .i64)))) (.cons (.int .i64) (.cons (.int .i64) .nil))), .bool, false, none, fun _ => True, fun _ => true⟩
def csRides : List Ent := [entSmall14, entFew14, entTighten, entPass, entLast] theorem hcsRides (f : FuncId) : findEnt csRides f = findEnt [entSmall14, entFew14, entTighten, entPass, entLast] f := rfl
set_option maxRecDepth 10000 in
set_option maxHeartbeats 1000000 in
theorem conRides : Con Try.prog entRides := by
  refine con_is (C := csRides) x7 (by kernel_rfl) (by simp [csRides, conSmall14, conFew14, conTighten, conPass, conLast]) fun x hx hf => ?_
  obtain ⟨⟨f, t, L, H⟩, l, u, y, _⟩ := x
  by_cases g : ((toArc (f, t, L, H)).rightB && obsRightB (l.map toObs)) = true
  · have ht : tightF (toArc (f, t, L, H)) (l.map toObs) = ((f, t, ((toArc (f, t, L, H)).tight (l.map toObs)).L, ((toArc (f, t, L, H)).tight (l.map toObs)).H), straysOf (toArc (f, t, L, H)) (l.map toObs), 0, ()) := if_pos g
    simp only [Bool.and_eq_true] at g
    have hr : (toArc (f, t, L, H)).right := of_decide_eq_true g.1
    have hok : (l.map toObs).all Obs.okB = true := by have := g.2; unfold obsRightB at this; simp only [Bool.and_eq_true] at this; exact this.2
    have hb : ((toArc (f, t, L, H)).tight (l.map toObs)).right := tight_right hr hok
    have hbe : toArc (f, t, ((toArc (f, t, L, H)).tight (l.map toObs)).L, ((toArc (f, t, L, H)).tight (l.map toObs)).H) = (toArc (f, t, L, H)).tight (l.map toObs) := rfl
    dsimp only [entRides, x7]; simp only [ht, ↓hcsRides, entSmall14, entFew14, entTighten, entPass, entLast, List.set_cons_zero, List.set_cons_succ, ↓xwp_clean, tmG, cleanS, headT, numb, rensT, tmle, fastD, runR_true, runR_false, quiet, Eff.tch, ↓xwp_seq, ↓xwp_skip, ↓xwp_ret, ↓xwp_exit, ↓xwp_block, ↓xwp_loop, ↓xwp_reg, ↓xwp_cond, ↓thn_n, ↓thn_e, ↓thn_r, ↓XQ.seq, ↓XQ.blk, List.getElem?_cons_succ, List.getElem?_cons_zero, List.getElem?_nil, runT, stepT, gop, gcond, opg, pickx, boolOf, XOp.isPick, opx, stripL, strip, pur, XO.gv, XA.av, setT, appL, killL, effOk, ltAll, AV.locs, AV.locsL, OB.locs, look, enter, resAVs, binx, intBin, eqx, lenx, condOf, loadx, partOf, storex, splice, cellsOf, scatter, zeroAV, fieldx, faddrx, iaddrx, bounds, avInt, avIntK, avBool, extx, slicex, fillx, rowx, callx, callvx, fn1x, fn2x, findEnt, rdL, rdA, rdClo, rdCap, rd, rd1, rdAgg, rdPtr, rdc, rd1c, ofCst, proj, upd, appendx, srcx, freshEff, minx, Ty.isSt, Ty.size, Ty.scalar, Ty.dflt, cast?_self, List.map_cons, List.map_nil, List.getD_cons_zero, List.getD_cons_succ, List.length_cons, List.length_nil, List.cons_append, List.nil_append, List.append_nil, List.filter_cons, List.filter_nil, List.isEmpty_nil, List.isEmpty_cons, Option.map_some, Option.map_none, Option.bind_some, Option.isNone_none, Option.isNone_some, Bool.false_eq_true, if_true, if_false, ite_true, ite_false, Bool.and_true, Bool.true_and, Bool.and_false, Bool.false_and, and_true, true_and, and_self, not_true_eq_false, not_false_eq_true, imp_self, forall_const, true_imp_iff, implies_true, decide_true, decide_false, cond_true, cond_false, reduceCtorEq, List.find?_cons, List.find?_nil, beq_self_eq_true, List.drop_zero, List.take_zero, List.drop_succ_cons, List.take_succ_cons, Nat.reduceAdd, Nat.reduceSub, Nat.reduceMul, Nat.reduceLT, Nat.reduceLeDiff, Nat.reduceEqDiff, Nat.reduceBEq, Nat.reduceBNe, List.reduceReplicate, reduceIte, retQ, finish, resAll, resAV, freshIs, stepD, runD, okD, meet, reach, restr, inAll, effIn, headOf, puts, put1, keep, le', autoρ, tidy, renB, rens, ren1, asle, avles, avle, hple, oble, uniq, sub, locOk, assoc, disj, List.all_cons, List.all_nil, List.any_cons, List.any_nil, List.contains_nil, List.contains_cons, List.flatMap_cons, List.flatMap_nil, List.mem_cons, List.not_mem_nil, or_false, false_or, or_true, true_or, or_self, Bool.or_false, Bool.or_true, Bool.true_or, Bool.false_or, Bool.not_true, Bool.not_false, List.take_nil, List.drop_nil, eq_self, Option.some.injEq, false_and, and_false, ↓reduceIte]
    simp only [hbe, true_imp_iff, not_true_eq_false, not_false_eq_true, false_imp_iff, and_false, false_and, or_false, false_or, eqf, eqt, bif_and, bif_or, Bool.not_not, Bool.not_eq_true', Bool.not_eq_false', Bool.or_eq_true, Bool.or_eq_false_iff, Bool.and_eq_true, Bool.and_eq_false_imp, decide_eq_true_eq, decide_eq_false_iff_not, bne_iff_ne, bne_eq_false_iff_eq, beq_iff_eq, beq_eq_false_iff_ne, ne_eq, Int.toNat_natCast, Int.not_lt, Int.not_le, ge_iff_le, gt_iff_lt, Int.natCast_nonneg, Int.ofNat_lt, imp_self, and_true, true_and, implies_true, Int.ofNat_inj, and_self, Classical.not_not]
    intro hfew
    by_cases h0 : 0 ≤ u
    · by_cases h1 : u ≤ 1048576
      · have k1 : (toArc (f, t, L, H)).passF true u = (toArc (f, t, L, H)).pass true u := Arc.passF_yes _ hr ⟨h0, h1⟩
        have k2 : (toArc (f, t, L, H)).passF false u = (toArc (f, t, L, H)).pass false u := Arc.passF_yes _ hr ⟨h0, h1⟩
        have k3 : ((toArc (f, t, L, H)).tight (l.map toObs)).passF true u = ((toArc (f, t, L, H)).tight (l.map toObs)).pass true u := Arc.passF_yes _ hb ⟨h0, h1⟩
        have k4 : ((toArc (f, t, L, H)).tight (l.map toObs)).passF false u = ((toArc (f, t, L, H)).tight (l.map toObs)).pass false u := Arc.passF_yes _ hb ⟨h0, h1⟩
        have l1 : (toArc (f, t, L, H)).lastF true y = (toArc (f, t, L, H)).last true y := Arc.lastF_yes _ _ hr
        have l2 : (toArc (f, t, L, H)).lastF false y = (toArc (f, t, L, H)).last false y := Arc.lastF_yes _ _ hr
        have l3 : ((toArc (f, t, L, H)).tight (l.map toObs)).lastF true y = ((toArc (f, t, L, H)).tight (l.map toObs)).last true y := Arc.lastF_yes _ _ hb
        have l4 : ((toArc (f, t, L, H)).tight (l.map toObs)).lastF false y = ((toArc (f, t, L, H)).tight (l.map toObs)).last false y := Arc.lastF_yes _ _ hb
        have m1 := pass_le (tight_high (toArc (f, t, L, H)) (l.map toObs)) h1
        have m2 := pass_le (tight_low (toArc (f, t, L, H)) (l.map toObs)) h1
        have m3 := pass_le (fun v => ((toArc (f, t, L, H)).tight (l.map toObs)).tk_mono hb v) h1
        have m4 := last_le_of (tight_high (toArc (f, t, L, H)) (l.map toObs)) y
        have m5 := last_le_of (tight_low (toArc (f, t, L, H)) (l.map toObs)) y
        simp only [k1, k2, k3, k4, l1, l2, l3, l4, m1, m2, m3, m4, m5, h0, h1, true_imp_iff, not_true_eq_false, not_false_eq_true, false_imp_iff, and_false, false_and, or_false, false_or, eqf, eqt, bif_and, bif_or, Bool.not_not, Bool.not_eq_true', Bool.not_eq_false', Bool.or_eq_true, Bool.or_eq_false_iff, Bool.and_eq_true, Bool.and_eq_false_imp, decide_eq_true_eq, decide_eq_false_iff_not, bne_iff_ne, bne_eq_false_iff_eq, beq_iff_eq, beq_eq_false_iff_ne, ne_eq, Int.toNat_natCast, Int.not_lt, Int.not_le, ge_iff_le, gt_iff_lt, Int.natCast_nonneg, Int.ofNat_lt, imp_self, and_true, true_and, implies_true, Int.ofNat_inj, and_self, Classical.not_not]
      · simp only [h0, h1, true_imp_iff, not_true_eq_false, not_false_eq_true, false_imp_iff, and_false, false_and, or_false, false_or, eqf, eqt, bif_and, bif_or, Bool.not_not, Bool.not_eq_true', Bool.not_eq_false', Bool.or_eq_true, Bool.or_eq_false_iff, Bool.and_eq_true, Bool.and_eq_false_imp, decide_eq_true_eq, decide_eq_false_iff_not, bne_iff_ne, bne_eq_false_iff_eq, beq_iff_eq, beq_eq_false_iff_ne, ne_eq, Int.toNat_natCast, Int.not_lt, Int.not_le, ge_iff_le, gt_iff_lt, Int.natCast_nonneg, Int.ofNat_lt, imp_self, and_true, true_and, implies_true, Int.ofNat_inj, and_self, Classical.not_not]
    · simp only [h0, true_imp_iff, not_true_eq_false, not_false_eq_true, false_imp_iff, and_false, false_and, or_false, false_or, eqf, eqt, bif_and, bif_or, Bool.not_not, Bool.not_eq_true', Bool.not_eq_false', Bool.or_eq_true, Bool.or_eq_false_iff, Bool.and_eq_true, Bool.and_eq_false_imp, decide_eq_true_eq, decide_eq_false_iff_not, bne_iff_ne, bne_eq_false_iff_eq, beq_iff_eq, beq_eq_false_iff_ne, ne_eq, Int.toNat_natCast, Int.not_lt, Int.not_le, ge_iff_le, gt_iff_lt, Int.natCast_nonneg, Int.ofNat_lt, imp_self, and_true, true_and, implies_true, Int.ofNat_inj, and_self, Classical.not_not]
  · have ht : tightF (toArc (f, t, L, H)) (l.map toObs) = ((0, 0, [], []), [], 1, ()) := if_neg g
    dsimp only [entRides, x7]; simp only [ht, ↓hcsRides, entSmall14, entFew14, entTighten, entPass, entLast, List.set_cons_zero, List.set_cons_succ, ↓xwp_clean, tmG, cleanS, headT, numb, rensT, tmle, fastD, runR_true, runR_false, quiet, Eff.tch, ↓xwp_seq, ↓xwp_skip, ↓xwp_ret, ↓xwp_exit, ↓xwp_block, ↓xwp_loop, ↓xwp_reg, ↓xwp_cond, ↓thn_n, ↓thn_e, ↓thn_r, ↓XQ.seq, ↓XQ.blk, List.getElem?_cons_succ, List.getElem?_cons_zero, List.getElem?_nil, runT, stepT, gop, gcond, opg, pickx, boolOf, XOp.isPick, opx, stripL, strip, pur, XO.gv, XA.av, setT, appL, killL, effOk, ltAll, AV.locs, AV.locsL, OB.locs, look, enter, resAVs, binx, intBin, eqx, lenx, condOf, loadx, partOf, storex, splice, cellsOf, scatter, zeroAV, fieldx, faddrx, iaddrx, bounds, avInt, avIntK, avBool, extx, slicex, fillx, rowx, callx, callvx, fn1x, fn2x, findEnt, rdL, rdA, rdClo, rdCap, rd, rd1, rdAgg, rdPtr, rdc, rd1c, ofCst, proj, upd, appendx, srcx, freshEff, minx, Ty.isSt, Ty.size, Ty.scalar, Ty.dflt, cast?_self, List.map_cons, List.map_nil, List.getD_cons_zero, List.getD_cons_succ, List.length_cons, List.length_nil, List.cons_append, List.nil_append, List.append_nil, List.filter_cons, List.filter_nil, List.isEmpty_nil, List.isEmpty_cons, Option.map_some, Option.map_none, Option.bind_some, Option.isNone_none, Option.isNone_some, Bool.false_eq_true, if_true, if_false, ite_true, ite_false, Bool.and_true, Bool.true_and, Bool.and_false, Bool.false_and, and_true, true_and, and_self, not_true_eq_false, not_false_eq_true, imp_self, forall_const, true_imp_iff, implies_true, decide_true, decide_false, cond_true, cond_false, reduceCtorEq, List.find?_cons, List.find?_nil, beq_self_eq_true, List.drop_zero, List.take_zero, List.drop_succ_cons, List.take_succ_cons, Nat.reduceAdd, Nat.reduceSub, Nat.reduceMul, Nat.reduceLT, Nat.reduceLeDiff, Nat.reduceEqDiff, Nat.reduceBEq, Nat.reduceBNe, List.reduceReplicate, reduceIte, retQ, finish, resAll, resAV, freshIs, stepD, runD, okD, meet, reach, restr, inAll, effIn, headOf, puts, put1, keep, le', autoρ, tidy, renB, rens, ren1, asle, avles, avle, hple, oble, uniq, sub, locOk, assoc, disj, List.all_cons, List.all_nil, List.any_cons, List.any_nil, List.contains_nil, List.contains_cons, List.flatMap_cons, List.flatMap_nil, List.mem_cons, List.not_mem_nil, or_false, false_or, or_true, true_or, or_self, Bool.or_false, Bool.or_true, Bool.true_or, Bool.false_or, Bool.not_true, Bool.not_false, List.take_nil, List.drop_nil, eq_self, Option.some.injEq, false_and, and_false, ↓reduceIte]
    simp only [true_imp_iff, not_true_eq_false, not_false_eq_true, false_imp_iff, and_false, false_and, or_false, false_or, eqf, eqt, bif_and, bif_or, Bool.not_not, Bool.not_eq_true', Bool.not_eq_false', Bool.or_eq_true, Bool.or_eq_false_iff, Bool.and_eq_true, Bool.and_eq_false_imp, decide_eq_true_eq, decide_eq_false_iff_not, bne_iff_ne, bne_eq_false_iff_eq, beq_iff_eq, beq_eq_false_iff_ne, ne_eq, Int.toNat_natCast, Int.not_lt, Int.not_le, ge_iff_le, gt_iff_lt, Int.natCast_nonneg, Int.ofNat_lt, imp_self, and_true, true_and, implies_true, Int.ofNat_inj, and_self, Classical.not_not]
    exact fun _ h => absurd h.1.1 (by omega)
end T
end Go.Proofs.Ytaffcpdkmhpckaa
