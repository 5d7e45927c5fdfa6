/- StockAny, by the typed walk. -/
import Derived.Test.YtbbpiihbhdagnaaS5
import Derived.Test.YtbbpiihbhdagnaaPlainStock6
namespace Go.Proofs.Ytbbpiihbhdagnaa
set_option linter.unusedVariables false
set_option linter.unusedSimpArgs false
open Go.RowKit Go.IntWalk
namespace T
theorem useF_len {s : DStk} (q v : Int) : (useF s q v).1.2.2.length = s.2.2.length := by
  rw [useF_eq]
  dsimp only
  split
  · exact List.length_set
  · rfl
theorem takeF_len {s : DStk} (v : Int) : (takeF s v).1.2.2.length = s.2.2.length := by
  rw [takeF_eq]
  dsimp only
  split <;> rfl
def entAnyK : Ent := ⟨5, .cons (.st (.cons (.int .i64) (.cons (.int .i64) (.sl (.st (.cons (.int .i64) (.cons (.int .i64) (.int .i64)))))))) (.cons (.int .i64) (.cons (.int .i64) (.cons (.int .i64) (.cons (.int .i64) .nil)))), .bool, false, none, fun _ => True, fun _ => true⟩
def csAk : List Ent := [entSmall40, entTake, entUse, entSameK, entRightS] theorem hcsAk (f : FuncId) : findEnt csAk f = findEnt [entSmall40, entTake, entUse, entSameK, entRightS] f := rfl
theorem conAnyK : Con Try.prog entAnyK := by
  refine con_is (C := csAk) x5 (by kernel_rfl) (by simp [csAk, conSmall40, conTake, conUse, conSameK, conRightS]) fun x hx hf => ?_
  obtain ⟨⟨(t : Int), (u : Int), (L : List DLoan)⟩, (q : Int), (v : Int), (o : Int), (m : Int), _⟩ := x
  by_cases hL : (L.length : Int) ≤ 14
  case neg =>
    dsimp only [entAnyK, x5]; simp only [↓hcsAk, entSmall40, entTake, entUse, entSameK, entRightS, hL, nilOf, ↓xwp_top, slicey, oslx, copyx, srcx, ↓xwp_dead, ↓xwp_nxt, nxF, nxT, ↓xwp_rfor, ↓xwp_yld, ↓rndA_n, ↓rndB_n, rndA_x, rndB_x, rndA_r, rndB_r, ↓backR_n, ↓backR_r, backR_e, ↓hasLp_mk, setLp, entY, entR, ylOf, List.zip_cons_cons, List.zip_nil_left, List.zip_nil_right, mapOf, keyOf', ↓leQ_mk, ↓xwp_icall, ↓backQ_n, ↓backQ_r, ↓backQ_e, afterI, entI, exI, oneAV, keepI, XO.reads, XA.slot, eqsx, eqd,  List.drop_zero, List.take_length, Int.toNat_zero, Int.toNat_natCast, List.set_cons_zero, List.set_cons_succ, ↓xwp_clean, tmG, cleanS, headT, numb, rensT, tmle, fastD, runR_true, runR_false, quiet, Eff.tch, ↓xwp_seq, ↓xwp_skip, ↓xwp_ret, ↓xwp_exit, ↓xwp_block, ↓xwp_loop, ↓xwp_reg, ↓xwp_cond, ↓thn_n, ↓thn_e, ↓thn_r, ↓XQ.seq, ↓XQ.blk, List.getElem?_cons_succ, List.getElem?_cons_zero, List.getElem?_nil, runT, stepT, gop, gcond, opg, pickx, boolOf, XOp.isPick, opx, stripL, strip, pur, XO.gv, XA.av, setT, appL, killL, effOk, ltAll, AV.locs, AV.locsL, OB.locs, look, enter, resAVs, binx, intBin, eqx, lenx, condOf, loadx, partOf, storex, splice, cellsOf, scatter, zeroAV, fieldx, faddrx, iaddrx, bounds, avInt, avIntK, avBool, extx, slicex, fillx, rowx, callx, callvx, fn1x, fn2x, findEnt, rdL, rdA, rdClo, rdCap, rd, rd1, rdAgg, rdPtr, rdc, rd1c, ofCst, proj, upd, appendx, srcx, freshEff, ownx, plainArg, Ent.own, Option.isSome_some, Option.isSome_none, minx, Ty.isSt, Ty.size, Ty.scalar, Ty.dflt, cast?_self, List.map_cons, List.map_nil, List.getD_cons_zero, List.getD_cons_succ, List.length_cons, List.length_nil, List.cons_append, List.nil_append, List.append_nil, List.filter_cons, List.filter_nil, List.isEmpty_nil, List.isEmpty_cons, Option.map_some, Option.map_none, Option.bind_some, Option.isNone_none, Option.isNone_some, Bool.false_eq_true, if_true, if_false, ite_true, ite_false, Bool.and_true, Bool.true_and, Bool.and_false, Bool.false_and, and_true, true_and, and_self, not_true_eq_false, not_false_eq_true, imp_self, forall_const, true_imp_iff, implies_true, decide_true, decide_false, cond_true, cond_false, reduceCtorEq, List.find?_cons, List.find?_nil, beq_self_eq_true, List.drop_zero, List.take_zero, List.drop_succ_cons, List.take_succ_cons, Nat.reduceAdd, Nat.reduceSub, Nat.reduceMul, Nat.reduceLT, Nat.reduceLeDiff, Nat.reduceEqDiff, Nat.reduceBEq, Nat.reduceBNe, List.reduceReplicate, reduceIte, retQ, finish, resAll, resAV, freshIs, stepD, runD, okD, meet, reach, reachO, restr, inAll, effIn, headOf, puts, put1, keep, le', autoρ, tidy, renB, rens, ren1, asle, avles, avle, hple, oble, uniq, sub, locOk, assoc, disj, List.all_cons, List.all_nil, List.any_cons, List.any_nil, List.contains_nil, List.contains_cons, List.flatMap_cons, List.flatMap_nil, List.mem_cons, List.not_mem_nil, or_false, false_or, or_true, true_or, or_self, Bool.or_false, Bool.or_true, Bool.true_or, Bool.false_or, Bool.not_true, Bool.not_false, List.take_nil, List.drop_nil, eq_self, Option.some.injEq, false_and, and_false, ↓reduceIte]
    simp only [hL, reduceCtorEq, if_true, if_false, decide_true, decide_false, Bool.false_eq_true, true_imp_iff, not_true_eq_false, not_false_eq_true, false_imp_iff, and_false, false_and, or_false, false_or, eqf, eqt, bif_and, bif_or, Bool.not_not, Bool.not_eq_true', Bool.not_eq_false', Bool.or_eq_true, Bool.or_eq_false_iff, Bool.and_eq_true, Bool.and_eq_false_imp, decide_eq_true_eq, decide_eq_false_iff_not, bne_iff_ne, bne_eq_false_iff_eq, beq_iff_eq, beq_eq_false_iff_ne, ne_eq, Int.toNat_natCast, Int.not_lt, Int.not_le, ge_iff_le, gt_iff_lt, Int.natCast_nonneg, Int.ofNat_lt, imp_self, and_true, true_and, implies_true, Int.ofNat_inj, and_self, Classical.not_not]
  by_cases hr : rightS (t, u, L) = true
  case neg =>
    dsimp only [entAnyK, x5]; simp only [↓hcsAk, entSmall40, entTake, entUse, entSameK, entRightS, hL, hr, nilOf, ↓xwp_top, slicey, oslx, copyx, srcx, ↓xwp_dead, ↓xwp_nxt, nxF, nxT, ↓xwp_rfor, ↓xwp_yld, ↓rndA_n, ↓rndB_n, rndA_x, rndB_x, rndA_r, rndB_r, ↓backR_n, ↓backR_r, backR_e, ↓hasLp_mk, setLp, entY, entR, ylOf, List.zip_cons_cons, List.zip_nil_left, List.zip_nil_right, mapOf, keyOf', ↓leQ_mk, ↓xwp_icall, ↓backQ_n, ↓backQ_r, ↓backQ_e, afterI, entI, exI, oneAV, keepI, XO.reads, XA.slot, eqsx, eqd,  List.drop_zero, List.take_length, Int.toNat_zero, Int.toNat_natCast, List.set_cons_zero, List.set_cons_succ, ↓xwp_clean, tmG, cleanS, headT, numb, rensT, tmle, fastD, runR_true, runR_false, quiet, Eff.tch, ↓xwp_seq, ↓xwp_skip, ↓xwp_ret, ↓xwp_exit, ↓xwp_block, ↓xwp_loop, ↓xwp_reg, ↓xwp_cond, ↓thn_n, ↓thn_e, ↓thn_r, ↓XQ.seq, ↓XQ.blk, List.getElem?_cons_succ, List.getElem?_cons_zero, List.getElem?_nil, runT, stepT, gop, gcond, opg, pickx, boolOf, XOp.isPick, opx, stripL, strip, pur, XO.gv, XA.av, setT, appL, killL, effOk, ltAll, AV.locs, AV.locsL, OB.locs, look, enter, resAVs, binx, intBin, eqx, lenx, condOf, loadx, partOf, storex, splice, cellsOf, scatter, zeroAV, fieldx, faddrx, iaddrx, bounds, avInt, avIntK, avBool, extx, slicex, fillx, rowx, callx, callvx, fn1x, fn2x, findEnt, rdL, rdA, rdClo, rdCap, rd, rd1, rdAgg, rdPtr, rdc, rd1c, ofCst, proj, upd, appendx, srcx, freshEff, ownx, plainArg, Ent.own, Option.isSome_some, Option.isSome_none, minx, Ty.isSt, Ty.size, Ty.scalar, Ty.dflt, cast?_self, List.map_cons, List.map_nil, List.getD_cons_zero, List.getD_cons_succ, List.length_cons, List.length_nil, List.cons_append, List.nil_append, List.append_nil, List.filter_cons, List.filter_nil, List.isEmpty_nil, List.isEmpty_cons, Option.map_some, Option.map_none, Option.bind_some, Option.isNone_none, Option.isNone_some, Bool.false_eq_true, if_true, if_false, ite_true, ite_false, Bool.and_true, Bool.true_and, Bool.and_false, Bool.false_and, and_true, true_and, and_self, not_true_eq_false, not_false_eq_true, imp_self, forall_const, true_imp_iff, implies_true, decide_true, decide_false, cond_true, cond_false, reduceCtorEq, List.find?_cons, List.find?_nil, beq_self_eq_true, List.drop_zero, List.take_zero, List.drop_succ_cons, List.take_succ_cons, Nat.reduceAdd, Nat.reduceSub, Nat.reduceMul, Nat.reduceLT, Nat.reduceLeDiff, Nat.reduceEqDiff, Nat.reduceBEq, Nat.reduceBNe, List.reduceReplicate, reduceIte, retQ, finish, resAll, resAV, freshIs, stepD, runD, okD, meet, reach, reachO, restr, inAll, effIn, headOf, puts, put1, keep, le', autoρ, tidy, renB, rens, ren1, asle, avles, avle, hple, oble, uniq, sub, locOk, assoc, disj, List.all_cons, List.all_nil, List.any_cons, List.any_nil, List.contains_nil, List.contains_cons, List.flatMap_cons, List.flatMap_nil, List.mem_cons, List.not_mem_nil, or_false, false_or, or_true, true_or, or_self, Bool.or_false, Bool.or_true, Bool.true_or, Bool.false_or, Bool.not_true, Bool.not_false, List.take_nil, List.drop_nil, eq_self, Option.some.injEq, false_and, and_false, ↓reduceIte]
    try simp only [hL, hr, reduceCtorEq, if_true, if_false, decide_true, decide_false, Bool.false_eq_true, true_imp_iff, not_true_eq_false, not_false_eq_true, false_imp_iff, and_false, false_and, or_false, false_or, eqf, eqt, bif_and, bif_or, Bool.not_not, Bool.not_eq_true', Bool.not_eq_false', Bool.or_eq_true, Bool.or_eq_false_iff, Bool.and_eq_true, Bool.and_eq_false_imp, decide_eq_true_eq, decide_eq_false_iff_not, bne_iff_ne, bne_eq_false_iff_eq, beq_iff_eq, beq_eq_false_iff_ne, ne_eq, Int.toNat_natCast, Int.not_lt, Int.not_le, ge_iff_le, gt_iff_lt, Int.natCast_nonneg, Int.ofNat_lt, imp_self, and_true, true_and, implies_true, Int.ofNat_inj, and_self, Classical.not_not]
  have l1 := useF_len (s := (t, u, L)) q v
  have l2 := useF_len (s := (t, u, L)) o m
  have l3 := takeF_len (s := (t, u, L)) m
  have hc := fun z : q ≠ o => use_comm hr z v m
  have ht := take_use hr q v m
  have hl : L.length ≤ 1000 := by omega
  generalize hR1 : useF (t, u, L) q v = R1 at l1 hc ht
  generalize hR2 : useF (t, u, L) o m = R2 at l2 hc
  generalize hR3 : takeF (t, u, L) m = R3 at l3 ht
  obtain ⟨⟨t1, u1, L1⟩, e1⟩ := R1
  obtain ⟨⟨t2, u2, L2⟩, e2⟩ := R2
  obtain ⟨⟨t3, u3, L3⟩, e3⟩ := R3
  dsimp only at l1 l2 l3 hc ht
  rw [← l1] at hl
  have hl1 := hl
  rw [l1, ← l2] at hl
  have hl2 := hl
  rw [l2, ← l3] at hl
  have hl3 := hl
  rw [l3] at hl
  generalize hR4 : useF (t1, u1, L1) o m = R4 at hc
  generalize hR5 : useF (t2, u2, L2) q v = R5 at hc
  generalize hR6 : takeF (t1, u1, L1) m = R6 at ht
  generalize hR7 : useF (t3, u3, L3) q v = R7 at ht
  obtain ⟨⟨t4, u4, L4⟩, e4⟩ := R4
  obtain ⟨⟨t5, u5, L5⟩, e5⟩ := R5
  obtain ⟨⟨t6, u6, L6⟩, e6⟩ := R6
  obtain ⟨⟨t7, u7, L7⟩, e7⟩ := R7
  obtain ⟨h6, h7, h67⟩ := ht
  dsimp only at hc h6 h7 h67
  dsimp only [entAnyK, x5]; simp only [↓hcsAk, entSmall40, entTake, entUse, entSameK, entRightS, hL, hr, hR1, hR2, hR3, hR4, hR5, hR6, hR7, hl, hl1, hl2, hl3, h6, h7, h67, nilOf, ↓xwp_top, slicey, oslx, copyx, srcx, ↓xwp_dead, ↓xwp_nxt, nxF, nxT, ↓xwp_rfor, ↓xwp_yld, ↓rndA_n, ↓rndB_n, rndA_x, rndB_x, rndA_r, rndB_r, ↓backR_n, ↓backR_r, backR_e, ↓hasLp_mk, setLp, entY, entR, ylOf, List.zip_cons_cons, List.zip_nil_left, List.zip_nil_right, mapOf, keyOf', ↓leQ_mk, ↓xwp_icall, ↓backQ_n, ↓backQ_r, ↓backQ_e, afterI, entI, exI, oneAV, keepI, XO.reads, XA.slot, eqsx, eqd,  List.drop_zero, List.take_length, Int.toNat_zero, Int.toNat_natCast, List.set_cons_zero, List.set_cons_succ, ↓xwp_clean, tmG, cleanS, headT, numb, rensT, tmle, fastD, runR_true, runR_false, quiet, Eff.tch, ↓xwp_seq, ↓xwp_skip, ↓xwp_ret, ↓xwp_exit, ↓xwp_block, ↓xwp_loop, ↓xwp_reg, ↓xwp_cond, ↓thn_n, ↓thn_e, ↓thn_r, ↓XQ.seq, ↓XQ.blk, List.getElem?_cons_succ, List.getElem?_cons_zero, List.getElem?_nil, runT, stepT, gop, gcond, opg, pickx, boolOf, XOp.isPick, opx, stripL, strip, pur, XO.gv, XA.av, setT, appL, killL, effOk, ltAll, AV.locs, AV.locsL, OB.locs, look, enter, resAVs, binx, intBin, eqx, lenx, condOf, loadx, partOf, storex, splice, cellsOf, scatter, zeroAV, fieldx, faddrx, iaddrx, bounds, avInt, avIntK, avBool, extx, slicex, fillx, rowx, callx, callvx, fn1x, fn2x, findEnt, rdL, rdA, rdClo, rdCap, rd, rd1, rdAgg, rdPtr, rdc, rd1c, ofCst, proj, upd, appendx, srcx, freshEff, ownx, plainArg, Ent.own, Option.isSome_some, Option.isSome_none, minx, Ty.isSt, Ty.size, Ty.scalar, Ty.dflt, cast?_self, List.map_cons, List.map_nil, List.getD_cons_zero, List.getD_cons_succ, List.length_cons, List.length_nil, List.cons_append, List.nil_append, List.append_nil, List.filter_cons, List.filter_nil, List.isEmpty_nil, List.isEmpty_cons, Option.map_some, Option.map_none, Option.bind_some, Option.isNone_none, Option.isNone_some, Bool.false_eq_true, if_true, if_false, ite_true, ite_false, Bool.and_true, Bool.true_and, Bool.and_false, Bool.false_and, and_true, true_and, and_self, not_true_eq_false, not_false_eq_true, imp_self, forall_const, true_imp_iff, implies_true, decide_true, decide_false, cond_true, cond_false, reduceCtorEq, List.find?_cons, List.find?_nil, beq_self_eq_true, List.drop_zero, List.take_zero, List.drop_succ_cons, List.take_succ_cons, Nat.reduceAdd, Nat.reduceSub, Nat.reduceMul, Nat.reduceLT, Nat.reduceLeDiff, Nat.reduceEqDiff, Nat.reduceBEq, Nat.reduceBNe, List.reduceReplicate, reduceIte, retQ, finish, resAll, resAV, freshIs, stepD, runD, okD, meet, reach, reachO, restr, inAll, effIn, headOf, puts, put1, keep, le', autoρ, tidy, renB, rens, ren1, asle, avles, avle, hple, oble, uniq, sub, locOk, assoc, disj, List.all_cons, List.all_nil, List.any_cons, List.any_nil, List.contains_nil, List.contains_cons, List.flatMap_cons, List.flatMap_nil, List.mem_cons, List.not_mem_nil, or_false, false_or, or_true, true_or, or_self, Bool.or_false, Bool.or_true, Bool.true_or, Bool.false_or, Bool.not_true, Bool.not_false, List.take_nil, List.drop_nil, eq_self, Option.some.injEq, false_and, and_false, ↓reduceIte]
  try simp only [hL, hr, hR1, hR2, hR3, hR4, hR5, hR6, hR7, hl, hl1, hl2, hl3, h6, h7, h67, reduceCtorEq, if_true, if_false, decide_true, decide_false, Bool.false_eq_true, true_imp_iff, not_true_eq_false, not_false_eq_true, false_imp_iff, and_false, false_and, or_false, false_or, eqf, eqt, bif_and, bif_or, Bool.not_not, Bool.not_eq_true', Bool.not_eq_false', Bool.or_eq_true, Bool.or_eq_false_iff, Bool.and_eq_true, Bool.and_eq_false_imp, decide_eq_true_eq, decide_eq_false_iff_not, bne_iff_ne, bne_eq_false_iff_eq, beq_iff_eq, beq_eq_false_iff_ne, ne_eq, Int.toNat_natCast, Int.not_lt, Int.not_le, ge_iff_le, gt_iff_lt, Int.natCast_nonneg, Int.ofNat_lt, imp_self, and_true, true_and, implies_true, Int.ofNat_inj, and_self, Classical.not_not]
  refine fun _ => ⟨⟨fun h => ⟨h, fun e => ⟨h, e⟩⟩, fun h => ⟨h, fun e => ⟨h, e.1, e.2⟩⟩⟩, ?_⟩
  rintro ⟨h, z⟩
  obtain ⟨h1, h2, h3⟩ := hc h
  rcases z with (z | z) | z
  · exact z h1
  · exact z h2
  · exact z h3
end T
end Go.Proofs.Ytbbpiihbhdagnaa
