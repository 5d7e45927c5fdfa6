/- GaugeOrder, by the typed walk. -/
import Derived.Test.YtaffcpdkmhpckaaG4
import Derived.Test.YtaffcpdkmhpckaaPlainGauge4
namespace Go.Proofs.Ytaffcpdkmhpckaa
set_option linter.unusedVariables false
set_option linter.unusedSimpArgs false
open Go.RowKit Go.IntWalk
namespace T
def entOrder : Ent := ⟨5, .cons (.st (.cons (.int .i64) (.cons (.int .i64) (.cons (.sl (.int .i64)) (.sl (.int .i64)))))) (.cons (.sl (.st (.cons (.int .i64) (.int .i64)))) (.cons (.int .u8) .nil)), .bool, false, none, fun _ => True, fun _ => true⟩
def csOrder : List Ent := [entSmall14, entFew14, entTighten, entSame, entInts] theorem hcsOrder (f : FuncId) : findEnt csOrder f = findEnt [entSmall14, entFew14, entTighten, entSame, entInts] f := rfl
set_option maxRecDepth 10000 in
set_option maxHeartbeats 1000000 in
theorem conOrder : Con Try.prog entOrder := by
  refine con_is (C := csOrder) x5 (by kernel_rfl) (by simp [csOrder, conSmall14, conFew14, conTighten, conSame, conInts]) fun x hx hf => ?_
  obtain ⟨⟨f, t, L, H⟩, l, (y : Int), _⟩ := x
  by_cases g : ((toArc (f, t, L, H)).rightB && obsRightB (l.map toObs)) = true
  · have ht : tightF (toArc (f, t, L, H)) (l.map toObs) = ((f, t, ((toArc (f, t, L, H)).tight (l.map toObs)).L, ((toArc (f, t, L, H)).tight (l.map toObs)).H), straysOf (toArc (f, t, L, H)) (l.map toObs), 0, ()) := if_pos g
    simp only [Bool.and_eq_true] at g
    have hr : (toArc (f, t, L, H)).right := of_decide_eq_true g.1
    have hok : (l.map toObs).all Obs.okB = true := by have := g.2; unfold obsRightB at this; simp only [Bool.and_eq_true] at this; exact this.2
    have hb : ((toArc (f, t, L, H)).tight (l.map toObs)).right := tight_right hr hok
    have hbe : toArc (f, t, ((toArc (f, t, L, H)).tight (l.map toObs)).L, ((toArc (f, t, L, H)).tight (l.map toObs)).H) = (toArc (f, t, L, H)).tight (l.map toObs) := rfl
    dsimp only [entOrder, x5]; simp only [ht, ↓hcsOrder, entSmall14, entFew14, entTighten, entSame, entInts, List.set_cons_zero, List.set_cons_succ, ↓xwp_clean, tmG, cleanS, headT, numb, rensT, tmle, fastD, runR_true, runR_false, quiet, Eff.tch, ↓xwp_seq, ↓xwp_skip, ↓xwp_ret, ↓xwp_exit, ↓xwp_block, ↓xwp_loop, ↓xwp_reg, ↓xwp_cond, ↓thn_n, ↓thn_e, ↓thn_r, ↓XQ.seq, ↓XQ.blk, List.getElem?_cons_succ, List.getElem?_cons_zero, List.getElem?_nil, runT, stepT, gop, gcond, opg, pickx, boolOf, XOp.isPick, opx, stripL, strip, pur, XO.gv, XA.av, setT, appL, killL, effOk, ltAll, AV.locs, AV.locsL, OB.locs, look, enter, resAVs, binx, intBin, eqx, lenx, condOf, loadx, partOf, storex, splice, cellsOf, scatter, zeroAV, fieldx, faddrx, iaddrx, bounds, avInt, avIntK, avBool, extx, slicex, fillx, rowx, callx, callvx, fn1x, fn2x, findEnt, rdL, rdA, rdClo, rdCap, rd, rd1, rdAgg, rdPtr, rdc, rd1c, ofCst, proj, upd, appendx, srcx, freshEff, minx, Ty.isSt, Ty.size, Ty.scalar, Ty.dflt, cast?_self, List.map_cons, List.map_nil, List.getD_cons_zero, List.getD_cons_succ, List.length_cons, List.length_nil, List.cons_append, List.nil_append, List.append_nil, List.filter_cons, List.filter_nil, List.isEmpty_nil, List.isEmpty_cons, Option.map_some, Option.map_none, Option.bind_some, Option.isNone_none, Option.isNone_some, Bool.false_eq_true, if_true, if_false, ite_true, ite_false, Bool.and_true, Bool.true_and, Bool.and_false, Bool.false_and, and_true, true_and, and_self, not_true_eq_false, not_false_eq_true, imp_self, forall_const, true_imp_iff, implies_true, decide_true, decide_false, cond_true, cond_false, reduceCtorEq, List.find?_cons, List.find?_nil, beq_self_eq_true, List.drop_zero, List.take_zero, List.drop_succ_cons, List.take_succ_cons, Nat.reduceAdd, Nat.reduceSub, Nat.reduceMul, Nat.reduceLT, Nat.reduceLeDiff, Nat.reduceEqDiff, Nat.reduceBEq, Nat.reduceBNe, List.reduceReplicate, reduceIte, retQ, finish, resAll, resAV, freshIs, stepD, runD, okD, meet, reach, restr, inAll, effIn, headOf, puts, put1, keep, le', autoρ, tidy, renB, rens, ren1, asle, avles, avle, hple, oble, uniq, sub, locOk, assoc, disj, List.all_cons, List.all_nil, List.any_cons, List.any_nil, List.contains_nil, List.contains_cons, List.flatMap_cons, List.flatMap_nil, List.mem_cons, List.not_mem_nil, or_false, false_or, or_true, true_or, or_self, Bool.or_false, Bool.or_true, Bool.true_or, Bool.false_or, Bool.not_true, Bool.not_false, List.take_nil, List.drop_nil, eq_self, Option.some.injEq, false_and, and_false, ↓reduceIte]
    simp only [hbe, true_imp_iff, not_true_eq_false, not_false_eq_true, false_imp_iff, and_false, false_and, or_false, false_or, eqf, eqt, bif_and, bif_or, Bool.not_not, Bool.not_eq_true', Bool.not_eq_false', Bool.or_eq_true, Bool.or_eq_false_iff, Bool.and_eq_true, Bool.and_eq_false_imp, decide_eq_true_eq, decide_eq_false_iff_not, bne_iff_ne, bne_eq_false_iff_eq, beq_iff_eq, beq_eq_false_iff_ne, ne_eq, Int.toNat_natCast, Int.not_lt, Int.not_le, ge_iff_le, gt_iff_lt, Int.natCast_nonneg, Int.ofNat_lt, imp_self, and_true, true_and, implies_true, Int.ofNat_inj, and_self, Classical.not_not]
    intro hfew
    dsimp only [Ty.den] at *
    have hlen : 0 < l.length := by omega
    have hy : (0 : Int) ≤ y ∧ y ≤ (255 : Int) := hf.2.2.1
    obtain ⟨n, hn, hnl⟩ : ∃ n : Nat, (IntKind.i64.wrap y).tmod (l.length : Int) = (n : Int) ∧ n < l.length := by
      have h1 : (0 : Int) < l.length := by omega
      rw [i64_in _ (by omega), Int.tmod_eq_emod_of_nonneg hy.1]
      have h2 := Int.emod_nonneg y (show (l.length : Int) ≠ 0 by omega)
      have h3 := Int.emod_lt_of_pos y h1
      exact ⟨(y % l.length).toNat, by omega, by omega⟩
    have e0 : l.drop n ++ List.drop (Int.toNat 0) (l.take n) = l.drop n ++ l.take n := rfl
    have e1 : List.take l.length l = l := List.take_length
    simp only [hn, Int.toNat_natCast, e0, e1]
    have p : (List.map toObs (l.drop n ++ l.take n)).Perm (l.map toObs) := by
      refine List.Perm.map _ ?_
      have q : (l.drop n ++ l.take n).Perm (l.take n ++ l.drop n) := List.perm_append_comm
      rwa [List.take_append_drop] at q
    have hx1 := tight_perm (toArc (f, t, L, H)) p
    have hx2 : obsRightB (List.map toObs (l.drop n ++ l.take n)) = true := by rw [right_perm p]; exact g.2
    have ht2 : tightF (toArc (f, t, L, H)) (List.map toObs (l.drop n ++ l.take n)) = ((f, t, ((toArc (f, t, L, H)).tight (l.map toObs)).L, ((toArc (f, t, L, H)).tight (l.map toObs)).H), straysOf (toArc (f, t, L, H)) (List.map toObs (l.drop n ++ l.take n)), 0, ()) := by
      rw [← hx1]; exact if_pos (by rw [g.1, hx2]; rfl)
    have ht3 : tightF ((toArc (f, t, L, H)).tight (l.map toObs)) (l.map toObs) = ((f, t, ((toArc (f, t, L, H)).tight (l.map toObs)).L, ((toArc (f, t, L, H)).tight (l.map toObs)).H), straysOf (toArc (f, t, L, H)) (l.map toObs), 0, ()) := by
      have h1 : tightF ((toArc (f, t, L, H)).tight (l.map toObs)) (l.map toObs) = ((((toArc (f, t, L, H)).tight (l.map toObs)).f, ((toArc (f, t, L, H)).tight (l.map toObs)).t, (((toArc (f, t, L, H)).tight (l.map toObs)).tight (l.map toObs)).L, (((toArc (f, t, L, H)).tight (l.map toObs)).tight (l.map toObs)).H), straysOf ((toArc (f, t, L, H)).tight (l.map toObs)) (l.map toObs), 0, ()) := if_pos (by rw [show ((toArc (f, t, L, H)).tight (l.map toObs)).rightB = true from decide_eq_true hb, g.2]; rfl)
      rw [h1, tight_again, strays_again]; rfl
    simp only [ht2, ht3, List.length_drop, List.length_take, true_imp_iff, not_true_eq_false, not_false_eq_true, false_imp_iff, and_false, false_and, or_false, false_or, eqf, eqt, bif_and, bif_or, Bool.not_not, Bool.not_eq_true', Bool.not_eq_false', Bool.or_eq_true, Bool.or_eq_false_iff, Bool.and_eq_true, Bool.and_eq_false_imp, decide_eq_true_eq, decide_eq_false_iff_not, bne_iff_ne, bne_eq_false_iff_eq, beq_iff_eq, beq_eq_false_iff_ne, ne_eq, Int.toNat_natCast, Int.not_lt, Int.not_le, ge_iff_le, gt_iff_lt, Int.natCast_nonneg, Int.ofNat_lt, imp_self, and_true, true_and, implies_true, Int.ofNat_inj, and_self, Classical.not_not]
    have z : Int.toNat 0 = 0 := rfl
    exact ⟨by omega, ⟨by omega, by omega⟩, by omega, ⟨by omega, by omega⟩, by omega⟩
  · have ht : tightF (toArc (f, t, L, H)) (l.map toObs) = ((0, 0, [], []), [], 1, ()) := if_neg g
    dsimp only [entOrder, x5]; simp only [ht, ↓hcsOrder, entSmall14, entFew14, entTighten, entSame, entInts, List.set_cons_zero, List.set_cons_succ, ↓xwp_clean, tmG, cleanS, headT, numb, rensT, tmle, fastD, runR_true, runR_false, quiet, Eff.tch, ↓xwp_seq, ↓xwp_skip, ↓xwp_ret, ↓xwp_exit, ↓xwp_block, ↓xwp_loop, ↓xwp_reg, ↓xwp_cond, ↓thn_n, ↓thn_e, ↓thn_r, ↓XQ.seq, ↓XQ.blk, List.getElem?_cons_succ, List.getElem?_cons_zero, List.getElem?_nil, runT, stepT, gop, gcond, opg, pickx, boolOf, XOp.isPick, opx, stripL, strip, pur, XO.gv, XA.av, setT, appL, killL, effOk, ltAll, AV.locs, AV.locsL, OB.locs, look, enter, resAVs, binx, intBin, eqx, lenx, condOf, loadx, partOf, storex, splice, cellsOf, scatter, zeroAV, fieldx, faddrx, iaddrx, bounds, avInt, avIntK, avBool, extx, slicex, fillx, rowx, callx, callvx, fn1x, fn2x, findEnt, rdL, rdA, rdClo, rdCap, rd, rd1, rdAgg, rdPtr, rdc, rd1c, ofCst, proj, upd, appendx, srcx, freshEff, minx, Ty.isSt, Ty.size, Ty.scalar, Ty.dflt, cast?_self, List.map_cons, List.map_nil, List.getD_cons_zero, List.getD_cons_succ, List.length_cons, List.length_nil, List.cons_append, List.nil_append, List.append_nil, List.filter_cons, List.filter_nil, List.isEmpty_nil, List.isEmpty_cons, Option.map_some, Option.map_none, Option.bind_some, Option.isNone_none, Option.isNone_some, Bool.false_eq_true, if_true, if_false, ite_true, ite_false, Bool.and_true, Bool.true_and, Bool.and_false, Bool.false_and, and_true, true_and, and_self, not_true_eq_false, not_false_eq_true, imp_self, forall_const, true_imp_iff, implies_true, decide_true, decide_false, cond_true, cond_false, reduceCtorEq, List.find?_cons, List.find?_nil, beq_self_eq_true, List.drop_zero, List.take_zero, List.drop_succ_cons, List.take_succ_cons, Nat.reduceAdd, Nat.reduceSub, Nat.reduceMul, Nat.reduceLT, Nat.reduceLeDiff, Nat.reduceEqDiff, Nat.reduceBEq, Nat.reduceBNe, List.reduceReplicate, reduceIte, retQ, finish, resAll, resAV, freshIs, stepD, runD, okD, meet, reach, restr, inAll, effIn, headOf, puts, put1, keep, le', autoρ, tidy, renB, rens, ren1, asle, avles, avle, hple, oble, uniq, sub, locOk, assoc, disj, List.all_cons, List.all_nil, List.any_cons, List.any_nil, List.contains_nil, List.contains_cons, List.flatMap_cons, List.flatMap_nil, List.mem_cons, List.not_mem_nil, or_false, false_or, or_true, true_or, or_self, Bool.or_false, Bool.or_true, Bool.true_or, Bool.false_or, Bool.not_true, Bool.not_false, List.take_nil, List.drop_nil, eq_self, Option.some.injEq, false_and, and_false, ↓reduceIte]
    simp only [true_imp_iff, not_true_eq_false, not_false_eq_true, false_imp_iff, and_false, false_and, or_false, false_or, eqf, eqt, bif_and, bif_or, Bool.not_not, Bool.not_eq_true', Bool.not_eq_false', Bool.or_eq_true, Bool.or_eq_false_iff, Bool.and_eq_true, Bool.and_eq_false_imp, decide_eq_true_eq, decide_eq_false_iff_not, bne_iff_ne, bne_eq_false_iff_eq, beq_iff_eq, beq_eq_false_iff_ne, ne_eq, Int.toNat_natCast, Int.not_lt, Int.not_le, ge_iff_le, gt_iff_lt, Int.natCast_nonneg, Int.ofNat_lt, imp_self, and_true, true_and, implies_true, Int.ofNat_inj, and_self, Classical.not_not]
    exact fun _ h => absurd h (by omega)
end T
end Go.Proofs.Ytaffcpdkmhpckaa
