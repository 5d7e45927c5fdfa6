/- LabelArrives, by the typed walk. -/
import Derived.Test.YtcjgofcfinbpeaaPlainLabel2
namespace Go.Proofs.Ytcjgofcfinbpeaa
set_option linter.unusedVariables false
set_option linter.unusedSimpArgs false
open Go.RowKit Go.IntWalk
namespace T
theorem hour_prog {u : Int} (h0 : 0 ≤ u) (h1 : u ≤ 1000000000) : (IntKind.i64.wrap (u.tdiv 60)).tmod 24 = (hour u : Int) := by
  rw [Int.tdiv_eq_ediv_of_nonneg h0, i64_in _ (by omega), Int.tmod_eq_emod_of_nonneg (by omega)]
  unfold hour
  omega
def entEnter : Ent := ⟨33, .cons (.st (.cons (.int .i64) (.cons (.int .i64) (.cons (.sl (.int .i64)) (.sl (.int .i64)))))) (.cons (.int .i64) .nil), (.int .i64), false, none, fun x => (toArc x.1).right ∧ (0 : Int) ≤ x.2.1 ∧ (x.2.1 : Int) ≤ 1048576, fun x => enterF (toArc x.1) x.2.1⟩
def csEt : List Ent := [] theorem hcsEt (f : FuncId) : findEnt csEt f = findEnt [] f := rfl
theorem conEnter : Con Try.prog entEnter := by
  refine con_is (C := csEt) x33 (by kernel_rfl) (by simp [csEt]) fun x hx hf => ?_
  obtain ⟨⟨(f : Int), (t : Int), (lo : List Int), (hi : List Int)⟩, (now : Int), _⟩ := x
  obtain ⟨hr, hn0, hn1⟩ := hx
  have hn0 : 0 ≤ now := hn0
  have hn1 : now ≤ 1048576 := hn1
  dsimp only [entEnter, x33]; simp only [↓hcsEt, nilOf, ↓xwp_top, slicey, oslx, copyx, srcx, ↓xwp_dead, ↓xwp_rfor, ↓xwp_yld, ↓rndA_n, ↓rndB_n, rndA_x, rndB_x, rndA_r, rndB_r, ↓backR_n, ↓backR_r, backR_e, ↓hasLp_mk, setLp, entY, entR, ylOf, List.zip_cons_cons, List.zip_nil_left, List.zip_nil_right, mapOf, keyOf', ↓leQ_mk, ↓xwp_icall, ↓backQ_n, ↓backQ_r, ↓backQ_e, afterI, entI, exI, oneAV, keepI, XO.reads, XA.slot, eqsx, eqd,  List.drop_zero, List.take_length, Int.toNat_zero, Int.toNat_natCast, List.set_cons_zero, List.set_cons_succ, ↓xwp_clean, tmG, cleanS, headT, numb, rensT, tmle, fastD, runR_true, runR_false, quiet, Eff.tch, ↓xwp_seq, ↓xwp_skip, ↓xwp_ret, ↓xwp_exit, ↓xwp_block, ↓xwp_loop, ↓xwp_reg, ↓xwp_cond, ↓thn_n, ↓thn_e, ↓thn_r, ↓XQ.seq, ↓XQ.blk, List.getElem?_cons_succ, List.getElem?_cons_zero, List.getElem?_nil, runT, stepT, gop, gcond, opg, pickx, boolOf, XOp.isPick, opx, stripL, strip, pur, XO.gv, XA.av, setT, appL, killL, effOk, ltAll, AV.locs, AV.locsL, OB.locs, look, enter, resAVs, binx, intBin, eqx, lenx, condOf, loadx, partOf, storex, splice, cellsOf, scatter, zeroAV, fieldx, faddrx, iaddrx, bounds, avInt, avIntK, avBool, extx, slicex, fillx, rowx, callx, callvx, fn1x, fn2x, findEnt, rdL, rdA, rdClo, rdCap, rd, rd1, rdAgg, rdPtr, rdc, rd1c, ofCst, proj, upd, appendx, srcx, freshEff, minx, Ty.isSt, Ty.size, Ty.scalar, Ty.dflt, cast?_self, List.map_cons, List.map_nil, List.getD_cons_zero, List.getD_cons_succ, List.length_cons, List.length_nil, List.cons_append, List.nil_append, List.append_nil, List.filter_cons, List.filter_nil, List.isEmpty_nil, List.isEmpty_cons, Option.map_some, Option.map_none, Option.bind_some, Option.isNone_none, Option.isNone_some, Bool.false_eq_true, if_true, if_false, ite_true, ite_false, Bool.and_true, Bool.true_and, Bool.and_false, Bool.false_and, and_true, true_and, and_self, not_true_eq_false, not_false_eq_true, imp_self, forall_const, true_imp_iff, implies_true, decide_true, decide_false, cond_true, cond_false, reduceCtorEq, List.find?_cons, List.find?_nil, beq_self_eq_true, List.drop_zero, List.take_zero, List.drop_succ_cons, List.take_succ_cons, Nat.reduceAdd, Nat.reduceSub, Nat.reduceMul, Nat.reduceLT, Nat.reduceLeDiff, Nat.reduceEqDiff, Nat.reduceBEq, Nat.reduceBNe, List.reduceReplicate, reduceIte, retQ, finish, resAll, resAV, freshIs, stepD, runD, okD, meet, reach, reachO, restr, inAll, effIn, headOf, puts, put1, keep, le', autoρ, tidy, renB, rens, ren1, asle, avles, avle, hple, oble, uniq, sub, locOk, assoc, disj, List.all_cons, List.all_nil, List.any_cons, List.any_nil, List.contains_nil, List.contains_cons, List.flatMap_cons, List.flatMap_nil, List.mem_cons, List.not_mem_nil, or_false, false_or, or_true, true_or, or_self, Bool.or_false, Bool.or_true, Bool.true_or, Bool.false_or, Bool.not_true, Bool.not_false, List.take_nil, List.drop_nil, eq_self, Option.some.injEq, false_and, and_false, ↓reduceIte]
  try simp only [reduceCtorEq, if_true, if_false, decide_true, decide_false, Bool.false_eq_true, true_imp_iff, not_true_eq_false, not_false_eq_true, false_imp_iff, and_false, false_and, or_false, false_or, eqf, eqt, bif_and, bif_or, Bool.not_not, Bool.not_eq_true', Bool.not_eq_false', Bool.or_eq_true, Bool.or_eq_false_iff, Bool.and_eq_true, Bool.and_eq_false_imp, decide_eq_true_eq, decide_eq_false_iff_not, bne_iff_ne, bne_eq_false_iff_eq, beq_iff_eq, beq_eq_false_iff_ne, ne_eq, Int.toNat_natCast, Int.not_lt, Int.not_le, ge_iff_le, gt_iff_lt, Int.natCast_nonneg, Int.ofNat_lt, imp_self, and_true, true_and, implies_true, Int.ofNat_inj, and_self, Classical.not_not]
  refine XW_for 1000 x33_0d [0] Nat (fun k => [(5, .val (.int .i64) (enterTo (toArc (f, t, lo, hi)) now k)), (6, .val (.int .i64) (now + (k : Nat)))]) (fun _ => []) (fun k => k ≤ 1441) (fun k => 1441 - k) 0 ?_ ?_ ?_
  · dsimp only [x33_0d]
    simp only [nilOf, ↓xwp_top, slicey, oslx, copyx, srcx, ↓xwp_dead, ↓xwp_rfor, ↓xwp_yld, ↓rndA_n, ↓rndB_n, rndA_x, rndB_x, rndA_r, rndB_r, ↓backR_n, ↓backR_r, backR_e, ↓hasLp_mk, setLp, entY, entR, ylOf, List.zip_cons_cons, List.zip_nil_left, List.zip_nil_right, mapOf, keyOf', ↓leQ_mk, ↓xwp_icall, ↓backQ_n, ↓backQ_r, ↓backQ_e, afterI, entI, exI, oneAV, keepI, XO.reads, XA.slot, eqsx, eqd,  List.drop_zero, List.take_length, Int.toNat_zero, Int.toNat_natCast, List.set_cons_zero, List.set_cons_succ, ↓xwp_clean, tmG, cleanS, headT, numb, rensT, tmle, fastD, runR_true, runR_false, quiet, Eff.tch, ↓xwp_seq, ↓xwp_skip, ↓xwp_ret, ↓xwp_exit, ↓xwp_block, ↓xwp_loop, ↓xwp_reg, ↓xwp_cond, ↓thn_n, ↓thn_e, ↓thn_r, ↓XQ.seq, ↓XQ.blk, List.getElem?_cons_succ, List.getElem?_cons_zero, List.getElem?_nil, runT, stepT, gop, gcond, opg, pickx, boolOf, XOp.isPick, opx, stripL, strip, pur, XO.gv, XA.av, setT, appL, killL, effOk, ltAll, AV.locs, AV.locsL, OB.locs, look, enter, resAVs, binx, intBin, eqx, lenx, condOf, loadx, partOf, storex, splice, cellsOf, scatter, zeroAV, fieldx, faddrx, iaddrx, bounds, avInt, avIntK, avBool, extx, slicex, fillx, rowx, callx, callvx, fn1x, fn2x, findEnt, rdL, rdA, rdClo, rdCap, rd, rd1, rdAgg, rdPtr, rdc, rd1c, ofCst, proj, upd, appendx, srcx, freshEff, minx, Ty.isSt, Ty.size, Ty.scalar, Ty.dflt, cast?_self, List.map_cons, List.map_nil, List.getD_cons_zero, List.getD_cons_succ, List.length_cons, List.length_nil, List.cons_append, List.nil_append, List.append_nil, List.filter_cons, List.filter_nil, List.isEmpty_nil, List.isEmpty_cons, Option.map_some, Option.map_none, Option.bind_some, Option.isNone_none, Option.isNone_some, Bool.false_eq_true, if_true, if_false, ite_true, ite_false, Bool.and_true, Bool.true_and, Bool.and_false, Bool.false_and, and_true, true_and, and_self, not_true_eq_false, not_false_eq_true, imp_self, forall_const, true_imp_iff, implies_true, decide_true, decide_false, cond_true, cond_false, reduceCtorEq, List.find?_cons, List.find?_nil, beq_self_eq_true, List.drop_zero, List.take_zero, List.drop_succ_cons, List.take_succ_cons, Nat.reduceAdd, Nat.reduceSub, Nat.reduceMul, Nat.reduceLT, Nat.reduceLeDiff, Nat.reduceEqDiff, Nat.reduceBEq, Nat.reduceBNe, List.reduceReplicate, reduceIte, retQ, finish, resAll, resAV, freshIs, stepD, runD, okD, meet, reach, reachO, restr, inAll, effIn, headOf, puts, put1, keep, le', autoρ, tidy, renB, rens, ren1, asle, avles, avle, hple, oble, uniq, sub, locOk, assoc, disj, List.all_cons, List.all_nil, List.any_cons, List.any_nil, List.contains_nil, List.contains_cons, List.flatMap_cons, List.flatMap_nil, List.mem_cons, List.not_mem_nil, or_false, false_or, or_true, true_or, or_self, Bool.or_false, Bool.or_true, Bool.true_or, Bool.false_or, Bool.not_true, Bool.not_false, List.take_nil, List.drop_nil, eq_self, Option.some.injEq, false_and, and_false, ↓reduceIte]
    exact ⟨rfl, (by omega : now = now + ((0 : Nat) : Int))⟩
  · exact Nat.zero_le _
  · intro k hk
    dsimp only [x33_0, x33_0d]
    have es := enterTo_spec (toArc (f, t, lo, hi)) now k
    have es1 := es.1
    clear es
    have hH : hi.length = 24 := hr.2.2.2.1
    have e2 : enterTo (toArc (f, t, lo, hi)) now (k + 1) = if now + k + hi.getD (hour (now + k)) 0 < enterTo (toArc (f, t, lo, hi)) now k + hi.getD (hour (enterTo (toArc (f, t, lo, hi)) now k)) 0 then now + k else enterTo (toArc (f, t, lo, hi)) now k := rfl
    have e3 : k = 1441 → enterTo (toArc (f, t, lo, hi)) now k = enterF (toArc (f, t, lo, hi)) now := fun h => by rw [h]; rfl
    have b1 : 0 ≤ hi.getD (hour (now + k)) 0 ∧ hi.getD (hour (now + k)) 0 ≤ 600 := Arc.tk_bd hr true (now + k)
    have b2 : 0 ≤ hi.getD (hour (enterTo (toArc (f, t, lo, hi)) now k)) 0 ∧ hi.getD (hour (enterTo (toArc (f, t, lo, hi)) now k)) 0 ≤ 600 := Arc.tk_bd hr true (enterTo (toArc (f, t, lo, hi)) now k)
    have p1 := hour_prog (u := now + k) (by omega) (by omega)
    have p2 := hour_prog (u := enterTo (toArc (f, t, lo, hi)) now k) (by omega) (by omega)
    have l1 := hour_lt (now + k)
    have l2 := hour_lt (enterTo (toArc (f, t, lo, hi)) now k)
    simp only [↓hcsEt, nilOf, ↓xwp_top, slicey, oslx, copyx, srcx, ↓xwp_dead, ↓xwp_rfor, ↓xwp_yld, ↓rndA_n, ↓rndB_n, rndA_x, rndB_x, rndA_r, rndB_r, ↓backR_n, ↓backR_r, backR_e, ↓hasLp_mk, setLp, entY, entR, ylOf, List.zip_cons_cons, List.zip_nil_left, List.zip_nil_right, mapOf, keyOf', ↓leQ_mk, ↓xwp_icall, ↓backQ_n, ↓backQ_r, ↓backQ_e, afterI, entI, exI, oneAV, keepI, XO.reads, XA.slot, eqsx, eqd,  List.drop_zero, List.take_length, Int.toNat_zero, Int.toNat_natCast, List.set_cons_zero, List.set_cons_succ, ↓xwp_clean, tmG, cleanS, headT, numb, rensT, tmle, fastD, runR_true, runR_false, quiet, Eff.tch, ↓xwp_seq, ↓xwp_skip, ↓xwp_ret, ↓xwp_exit, ↓xwp_block, ↓xwp_loop, ↓xwp_reg, ↓xwp_cond, ↓thn_n, ↓thn_e, ↓thn_r, ↓XQ.seq, ↓XQ.blk, List.getElem?_cons_succ, List.getElem?_cons_zero, List.getElem?_nil, runT, stepT, gop, gcond, opg, pickx, boolOf, XOp.isPick, opx, stripL, strip, pur, XO.gv, XA.av, setT, appL, killL, effOk, ltAll, AV.locs, AV.locsL, OB.locs, look, enter, resAVs, binx, intBin, eqx, lenx, condOf, loadx, partOf, storex, splice, cellsOf, scatter, zeroAV, fieldx, faddrx, iaddrx, bounds, avInt, avIntK, avBool, extx, slicex, fillx, rowx, callx, callvx, fn1x, fn2x, findEnt, rdL, rdA, rdClo, rdCap, rd, rd1, rdAgg, rdPtr, rdc, rd1c, ofCst, proj, upd, appendx, srcx, freshEff, minx, Ty.isSt, Ty.size, Ty.scalar, Ty.dflt, cast?_self, List.map_cons, List.map_nil, List.getD_cons_zero, List.getD_cons_succ, List.length_cons, List.length_nil, List.cons_append, List.nil_append, List.append_nil, List.filter_cons, List.filter_nil, List.isEmpty_nil, List.isEmpty_cons, Option.map_some, Option.map_none, Option.bind_some, Option.isNone_none, Option.isNone_some, Bool.false_eq_true, if_true, if_false, ite_true, ite_false, Bool.and_true, Bool.true_and, Bool.and_false, Bool.false_and, and_true, true_and, and_self, not_true_eq_false, not_false_eq_true, imp_self, forall_const, true_imp_iff, implies_true, decide_true, decide_false, cond_true, cond_false, reduceCtorEq, List.find?_cons, List.find?_nil, beq_self_eq_true, List.drop_zero, List.take_zero, List.drop_succ_cons, List.take_succ_cons, Nat.reduceAdd, Nat.reduceSub, Nat.reduceMul, Nat.reduceLT, Nat.reduceLeDiff, Nat.reduceEqDiff, Nat.reduceBEq, Nat.reduceBNe, List.reduceReplicate, reduceIte, retQ, finish, resAll, resAV, freshIs, stepD, runD, okD, meet, reach, reachO, restr, inAll, effIn, headOf, puts, put1, keep, le', autoρ, tidy, renB, rens, ren1, asle, avles, avle, hple, oble, uniq, sub, locOk, assoc, disj, List.all_cons, List.all_nil, List.any_cons, List.any_nil, List.contains_nil, List.contains_cons, List.flatMap_cons, List.flatMap_nil, List.mem_cons, List.not_mem_nil, or_false, false_or, or_true, true_or, or_self, Bool.or_false, Bool.or_true, Bool.true_or, Bool.false_or, Bool.not_true, Bool.not_false, List.take_nil, List.drop_nil, eq_self, Option.some.injEq, false_and, and_false, ↓reduceIte]
    try simp only [reduceCtorEq, if_true, if_false, decide_true, decide_false, Bool.false_eq_true, true_imp_iff, not_true_eq_false, not_false_eq_true, false_imp_iff, and_false, false_and, or_false, false_or, eqf, eqt, bif_and, bif_or, Bool.not_not, Bool.not_eq_true', Bool.not_eq_false', Bool.or_eq_true, Bool.or_eq_false_iff, Bool.and_eq_true, Bool.and_eq_false_imp, decide_eq_true_eq, decide_eq_false_iff_not, bne_iff_ne, bne_eq_false_iff_eq, beq_iff_eq, beq_eq_false_iff_ne, ne_eq, Int.toNat_natCast, Int.not_lt, Int.not_le, ge_iff_le, gt_iff_lt, Int.natCast_nonneg, Int.ofNat_lt, imp_self, and_true, true_and, implies_true, Int.ofNat_inj, and_self, Classical.not_not]
    rw [p1, p2, Int.toNat_natCast, Int.toNat_natCast]
    generalize enterTo (toArc (f, t, lo, hi)) now k = b at *
    generalize hi.getD (hour (now + k)) 0 = c1 at *
    generalize hi.getD (hour b) 0 = c2 at *
    rw [i64_in (now + k + c1) (by omega), i64_in (b + c2) (by omega), i64_in (now + 1440) (by omega)]
    have w2 : IntKind.i64.wrap (now + k + 1) = now + ((k + 1 : Nat) : Int) := by rw [i64_in _ (by omega)]; omega
    refine ⟨fun h => ⟨⟨by decide, by decide, by omega, by decide, by decide, by omega⟩, fun h2 => ⟨k + 1, by omega, by omega, ?_, w2⟩, fun h2 => ⟨k + 1, by omega, by omega, ?_, w2⟩⟩, fun h => e3 (by omega)⟩
    · rw [e2, if_pos h2]
    · rw [e2, if_neg (Int.not_lt.2 h2)]
theorem earlyF_inv {n : Int} {A : List DArc} {src start : Int} {hi : Bool} (h : (earlyF n A src start hi).2.1 = 0) : rightR n A = true ∧ 0 ≤ src ∧ src < n := by
  unfold earlyF at h
  cases hc : rightR n A && (decide (0 ≤ src) && (decide (src < n) && timeB start)) with
  | false => rw [if_pos hc] at h; cases h
  | true =>
    rw [Bool.and_eq_true, Bool.and_eq_true, Bool.and_eq_true, decide_eq_true_iff, decide_eq_true_iff] at hc
    exact ⟨hc.1, hc.2.1, hc.2.2.1⟩
def entArrives : Ent := ⟨10, .cons (.int .i64) (.cons (.sl (.st (.cons (.int .i64) (.cons (.int .i64) (.cons (.sl (.int .i64)) (.sl (.int .i64))))))) (.cons (.sl (.int .i64)) (.cons (.int .i64) (.cons (.sl (.int .u16)) .nil)))), .bool, false, none, fun _ => True, fun _ => true⟩
def csAr : List Ent := [entSmall12, entFew12, entSpan, entEnter, entEarly] theorem hcsAr (f : FuncId) : findEnt csAr f = findEnt [entSmall12, entFew12, entSpan, entEnter, entEarly] f := rfl
theorem conArrives : Con Try.prog entArrives := by
  refine con_is (C := csAr) x10 (by kernel_rfl) (by simp [csAr, conSmall12, conFew12, conSpan, conEnter, conEarly]) fun x hpre hf => ?_
  obtain ⟨(n : Int), (A : List DArc), (W : List Int), (start : Int), (took : List Int), _⟩ := x
  dsimp only [entArrives, x10]; simp only [↓hcsAr, entSmall12, entFew12, entSpan, entEnter, entEarly, nilOf, ↓xwp_top, slicey, oslx, copyx, srcx, ↓xwp_dead, ↓xwp_rfor, ↓xwp_yld, ↓rndA_n, ↓rndB_n, rndA_x, rndB_x, rndA_r, rndB_r, ↓backR_n, ↓backR_r, backR_e, ↓hasLp_mk, setLp, entY, entR, ylOf, List.zip_cons_cons, List.zip_nil_left, List.zip_nil_right, mapOf, keyOf', ↓leQ_mk, ↓xwp_icall, ↓backQ_n, ↓backQ_r, ↓backQ_e, afterI, entI, exI, oneAV, keepI, XO.reads, XA.slot, eqsx, eqd,  List.drop_zero, List.take_length, Int.toNat_zero, Int.toNat_natCast, List.set_cons_zero, List.set_cons_succ, ↓xwp_clean, tmG, cleanS, headT, numb, rensT, tmle, fastD, runR_true, runR_false, quiet, Eff.tch, ↓xwp_seq, ↓xwp_skip, ↓xwp_ret, ↓xwp_exit, ↓xwp_block, ↓xwp_loop, ↓xwp_reg, ↓xwp_cond, ↓thn_n, ↓thn_e, ↓thn_r, ↓XQ.seq, ↓XQ.blk, List.getElem?_cons_succ, List.getElem?_cons_zero, List.getElem?_nil, runT, stepT, gop, gcond, opg, pickx, boolOf, XOp.isPick, opx, stripL, strip, pur, XO.gv, XA.av, setT, appL, killL, effOk, ltAll, AV.locs, AV.locsL, OB.locs, look, enter, resAVs, binx, intBin, eqx, lenx, condOf, loadx, partOf, storex, splice, cellsOf, scatter, zeroAV, fieldx, faddrx, iaddrx, bounds, avInt, avIntK, avBool, extx, slicex, fillx, rowx, callx, callvx, fn1x, fn2x, findEnt, rdL, rdA, rdClo, rdCap, rd, rd1, rdAgg, rdPtr, rdc, rd1c, ofCst, proj, upd, appendx, srcx, freshEff, minx, Ty.isSt, Ty.size, Ty.scalar, Ty.dflt, cast?_self, List.map_cons, List.map_nil, List.getD_cons_zero, List.getD_cons_succ, List.length_cons, List.length_nil, List.cons_append, List.nil_append, List.append_nil, List.filter_cons, List.filter_nil, List.isEmpty_nil, List.isEmpty_cons, Option.map_some, Option.map_none, Option.bind_some, Option.isNone_none, Option.isNone_some, Bool.false_eq_true, if_true, if_false, ite_true, ite_false, Bool.and_true, Bool.true_and, Bool.and_false, Bool.false_and, and_true, true_and, and_self, not_true_eq_false, not_false_eq_true, imp_self, forall_const, true_imp_iff, implies_true, decide_true, decide_false, cond_true, cond_false, reduceCtorEq, List.find?_cons, List.find?_nil, beq_self_eq_true, List.drop_zero, List.take_zero, List.drop_succ_cons, List.take_succ_cons, Nat.reduceAdd, Nat.reduceSub, Nat.reduceMul, Nat.reduceLT, Nat.reduceLeDiff, Nat.reduceEqDiff, Nat.reduceBEq, Nat.reduceBNe, List.reduceReplicate, reduceIte, retQ, finish, resAll, resAV, freshIs, stepD, runD, okD, meet, reach, reachO, restr, inAll, effIn, headOf, puts, put1, keep, le', autoρ, tidy, renB, rens, ren1, asle, avles, avle, hple, oble, uniq, sub, locOk, assoc, disj, List.all_cons, List.all_nil, List.any_cons, List.any_nil, List.contains_nil, List.contains_cons, List.flatMap_cons, List.flatMap_nil, List.mem_cons, List.not_mem_nil, or_false, false_or, or_true, true_or, or_self, Bool.or_false, Bool.or_true, Bool.true_or, Bool.false_or, Bool.not_true, Bool.not_false, List.take_nil, List.drop_nil, eq_self, Option.some.injEq, false_and, and_false, ↓reduceIte]
  simp only [reduceCtorEq, if_true, if_false, decide_true, decide_false, Bool.false_eq_true, true_imp_iff, not_true_eq_false, not_false_eq_true, false_imp_iff, and_false, false_and, or_false, false_or, eqf, eqt, bif_and, bif_or, Bool.not_not, Bool.not_eq_true', Bool.not_eq_false', Bool.or_eq_true, Bool.or_eq_false_iff, Bool.and_eq_true, Bool.and_eq_false_imp, decide_eq_true_eq, decide_eq_false_iff_not, bne_iff_ne, bne_eq_false_iff_eq, beq_iff_eq, beq_eq_false_iff_ne, ne_eq, Int.toNat_natCast, Int.not_lt, Int.not_le, ge_iff_le, gt_iff_lt, Int.natCast_nonneg, Int.ofNat_lt, imp_self, and_true, true_and, implies_true, Int.ofNat_inj, and_self, Classical.not_not]
  rintro ⟨⟨_, hn⟩, hWl⟩
  rcases spanF_or A W start with ⟨l, h, e⟩ | ⟨_, _, e⟩
  rotate_left
  · exact ⟨fun _ => ⟨fun q => absurd q e, .inl e⟩, fun q => absurd q.1 e⟩
  obtain ⟨el, eh, ht, hok, hA, hmax⟩ := span_max e
  have hmono := span_mono ht hok hA hmax
  rw [e]
  dsimp only
  refine ⟨fun q => ?_, fun q => ?_⟩
  · have h0 : W.length = 0 := by
      rcases q with q | q
      · exact absurd rfl q
      · omega
    rw [h0] at el eh
    exact ⟨fun _ => ⟨rfl, fun q => ⟨rfl, q⟩⟩, .inr ⟨el, eh⟩⟩
  have hWp : 0 < W.length := by have := q.2; omega
  refine XW_for 1000 x10_0d [] (Nat × Int) (fun s => [(15, .val (.int .i64) s.2), (16, .val (.int .i64) (s.1 : Int))]) (fun _ => []) (fun s => s.1 ≤ W.length ∧ runW A W false start s.1 ≤ s.2 ∧ s.2 ≤ runW A W true start s.1) (fun s => W.length - s.1) (0, start) ?_ ?_ ?_
  · dsimp only [x10_0d]
    simp only [nilOf, ↓xwp_top, slicey, oslx, copyx, srcx, ↓xwp_dead, ↓xwp_rfor, ↓xwp_yld, ↓rndA_n, ↓rndB_n, rndA_x, rndB_x, rndA_r, rndB_r, ↓backR_n, ↓backR_r, backR_e, ↓hasLp_mk, setLp, entY, entR, ylOf, List.zip_cons_cons, List.zip_nil_left, List.zip_nil_right, mapOf, keyOf', ↓leQ_mk, ↓xwp_icall, ↓backQ_n, ↓backQ_r, ↓backQ_e, afterI, entI, exI, oneAV, keepI, XO.reads, XA.slot, eqsx, eqd,  List.drop_zero, List.take_length, Int.toNat_zero, Int.toNat_natCast, List.set_cons_zero, List.set_cons_succ, ↓xwp_clean, tmG, cleanS, headT, numb, rensT, tmle, fastD, runR_true, runR_false, quiet, Eff.tch, ↓xwp_seq, ↓xwp_skip, ↓xwp_ret, ↓xwp_exit, ↓xwp_block, ↓xwp_loop, ↓xwp_reg, ↓xwp_cond, ↓thn_n, ↓thn_e, ↓thn_r, ↓XQ.seq, ↓XQ.blk, List.getElem?_cons_succ, List.getElem?_cons_zero, List.getElem?_nil, runT, stepT, gop, gcond, opg, pickx, boolOf, XOp.isPick, opx, stripL, strip, pur, XO.gv, XA.av, setT, appL, killL, effOk, ltAll, AV.locs, AV.locsL, OB.locs, look, enter, resAVs, binx, intBin, eqx, lenx, condOf, loadx, partOf, storex, splice, cellsOf, scatter, zeroAV, fieldx, faddrx, iaddrx, bounds, avInt, avIntK, avBool, extx, slicex, fillx, rowx, callx, callvx, fn1x, fn2x, findEnt, rdL, rdA, rdClo, rdCap, rd, rd1, rdAgg, rdPtr, rdc, rd1c, ofCst, proj, upd, appendx, srcx, freshEff, minx, Ty.isSt, Ty.size, Ty.scalar, Ty.dflt, cast?_self, List.map_cons, List.map_nil, List.getD_cons_zero, List.getD_cons_succ, List.length_cons, List.length_nil, List.cons_append, List.nil_append, List.append_nil, List.filter_cons, List.filter_nil, List.isEmpty_nil, List.isEmpty_cons, Option.map_some, Option.map_none, Option.bind_some, Option.isNone_none, Option.isNone_some, Bool.false_eq_true, if_true, if_false, ite_true, ite_false, Bool.and_true, Bool.true_and, Bool.and_false, Bool.false_and, and_true, true_and, and_self, not_true_eq_false, not_false_eq_true, imp_self, forall_const, true_imp_iff, implies_true, decide_true, decide_false, cond_true, cond_false, reduceCtorEq, List.find?_cons, List.find?_nil, beq_self_eq_true, List.drop_zero, List.take_zero, List.drop_succ_cons, List.take_succ_cons, Nat.reduceAdd, Nat.reduceSub, Nat.reduceMul, Nat.reduceLT, Nat.reduceLeDiff, Nat.reduceEqDiff, Nat.reduceBEq, Nat.reduceBNe, List.reduceReplicate, reduceIte, retQ, finish, resAll, resAV, freshIs, stepD, runD, okD, meet, reach, reachO, restr, inAll, effIn, headOf, puts, put1, keep, le', autoρ, tidy, renB, rens, ren1, asle, avles, avle, hple, oble, uniq, sub, locOk, assoc, disj, List.all_cons, List.all_nil, List.any_cons, List.any_nil, List.contains_nil, List.contains_cons, List.flatMap_cons, List.flatMap_nil, List.mem_cons, List.not_mem_nil, or_false, false_or, or_true, true_or, or_self, Bool.or_false, Bool.or_true, Bool.true_or, Bool.false_or, Bool.not_true, Bool.not_false, List.take_nil, List.drop_nil, eq_self, Option.some.injEq, false_and, and_false, ↓reduceIte]
    exact rfl
  · exact ⟨Nat.zero_le _, Int.le_refl _, Int.le_refl _⟩
  · rintro ⟨k, now⟩ ⟨hk, k1, k2⟩
    dsimp only at hk k1 k2
    dsimp only [x10_0, x10_0d]
    simp only [↓hcsAr, entSmall12, entFew12, entSpan, entEnter, entEarly, nilOf, ↓xwp_top, slicey, oslx, copyx, srcx, ↓xwp_dead, ↓xwp_rfor, ↓xwp_yld, ↓rndA_n, ↓rndB_n, rndA_x, rndB_x, rndA_r, rndB_r, ↓backR_n, ↓backR_r, backR_e, ↓hasLp_mk, setLp, entY, entR, ylOf, List.zip_cons_cons, List.zip_nil_left, List.zip_nil_right, mapOf, keyOf', ↓leQ_mk, ↓xwp_icall, ↓backQ_n, ↓backQ_r, ↓backQ_e, afterI, entI, exI, oneAV, keepI, XO.reads, XA.slot, eqsx, eqd,  List.drop_zero, List.take_length, Int.toNat_zero, Int.toNat_natCast, List.set_cons_zero, List.set_cons_succ, ↓xwp_clean, tmG, cleanS, headT, numb, rensT, tmle, fastD, runR_true, runR_false, quiet, Eff.tch, ↓xwp_seq, ↓xwp_skip, ↓xwp_ret, ↓xwp_exit, ↓xwp_block, ↓xwp_loop, ↓xwp_reg, ↓xwp_cond, ↓thn_n, ↓thn_e, ↓thn_r, ↓XQ.seq, ↓XQ.blk, List.getElem?_cons_succ, List.getElem?_cons_zero, List.getElem?_nil, runT, stepT, gop, gcond, opg, pickx, boolOf, XOp.isPick, opx, stripL, strip, pur, XO.gv, XA.av, setT, appL, killL, effOk, ltAll, AV.locs, AV.locsL, OB.locs, look, enter, resAVs, binx, intBin, eqx, lenx, condOf, loadx, partOf, storex, splice, cellsOf, scatter, zeroAV, fieldx, faddrx, iaddrx, bounds, avInt, avIntK, avBool, extx, slicex, fillx, rowx, callx, callvx, fn1x, fn2x, findEnt, rdL, rdA, rdClo, rdCap, rd, rd1, rdAgg, rdPtr, rdc, rd1c, ofCst, proj, upd, appendx, srcx, freshEff, minx, Ty.isSt, Ty.size, Ty.scalar, Ty.dflt, cast?_self, List.map_cons, List.map_nil, List.getD_cons_zero, List.getD_cons_succ, List.length_cons, List.length_nil, List.cons_append, List.nil_append, List.append_nil, List.filter_cons, List.filter_nil, List.isEmpty_nil, List.isEmpty_cons, Option.map_some, Option.map_none, Option.bind_some, Option.isNone_none, Option.isNone_some, Bool.false_eq_true, if_true, if_false, ite_true, ite_false, Bool.and_true, Bool.true_and, Bool.and_false, Bool.false_and, and_true, true_and, and_self, not_true_eq_false, not_false_eq_true, imp_self, forall_const, true_imp_iff, implies_true, decide_true, decide_false, cond_true, cond_false, reduceCtorEq, List.find?_cons, List.find?_nil, beq_self_eq_true, List.drop_zero, List.take_zero, List.drop_succ_cons, List.take_succ_cons, Nat.reduceAdd, Nat.reduceSub, Nat.reduceMul, Nat.reduceLT, Nat.reduceLeDiff, Nat.reduceEqDiff, Nat.reduceBEq, Nat.reduceBNe, List.reduceReplicate, reduceIte, retQ, finish, resAll, resAV, freshIs, stepD, runD, okD, meet, reach, reachO, restr, inAll, effIn, headOf, puts, put1, keep, le', autoρ, tidy, renB, rens, ren1, asle, avles, avle, hple, oble, uniq, sub, locOk, assoc, disj, List.all_cons, List.all_nil, List.any_cons, List.any_nil, List.contains_nil, List.contains_cons, List.flatMap_cons, List.flatMap_nil, List.mem_cons, List.not_mem_nil, or_false, false_or, or_true, true_or, or_self, Bool.or_false, Bool.or_true, Bool.true_or, Bool.false_or, Bool.not_true, Bool.not_false, List.take_nil, List.drop_nil, eq_self, Option.some.injEq, false_and, and_false, ↓reduceIte]
    try simp only [reduceCtorEq, if_true, if_false, decide_true, decide_false, Bool.false_eq_true, true_imp_iff, not_true_eq_false, not_false_eq_true, false_imp_iff, and_false, false_and, or_false, false_or, eqf, eqt, bif_and, bif_or, Bool.not_not, Bool.not_eq_true', Bool.not_eq_false', Bool.or_eq_true, Bool.or_eq_false_iff, Bool.and_eq_true, Bool.and_eq_false_imp, decide_eq_true_eq, decide_eq_false_iff_not, bne_iff_ne, bne_eq_false_iff_eq, beq_iff_eq, beq_eq_false_iff_ne, ne_eq, Int.toNat_natCast, Int.not_lt, Int.not_le, ge_iff_le, gt_iff_lt, Int.natCast_nonneg, Int.ofNat_lt, imp_self, and_true, true_and, implies_true, Int.ofNat_inj, and_self, Classical.not_not]
    refine ⟨fun hkl => ?_, fun hkl => ?_⟩
    · have hw := ((okWay_iff.1 hok) k hkl).1
      have hr : (toArc (A.getD (W.getD k 0).toNat (0, 0, [], []))).right := hA _ (getD_mem (by omega))
      have hm := hmono k hk
      have s0 := (timeB_iff.1 ht).1
      have hst := fun z => arrive_step (z := z) hr (l := runW A W false start k) (h := runW A W true start k) (now := now) (by omega) k1 k2 hm.2.2 (hmax k hkl)
      have hmx := hmax k hkl
      rw [runW] at hmx
      have hne : runW A W false start (k + 1) = (toArc (A.getD (W.getD k 0).toNat (0, 0, [], []))).passF false (runW A W false start k) := rfl
      have hne2 : runW A W true start (k + 1) = (toArc (A.getD (W.getD k 0).toNat (0, 0, [], []))).passF true (runW A W true start k) := rfl
      rw [Arc.passF_yes _ hr ⟨by omega, hm.2.2⟩] at hmx
      have hep := enter_pass hr (now := now) (by omega) (by omega) (Int.le_trans (Arc.pass_mono true k2 hm.2.2) hmx)
      rw [← hne, ← hne2] at hst
      clear hne hne2 hmx
      generalize A.getD (W.getD k 0).toNat (0, 0, [], []) = a at hr hst hep ⊢
      obtain ⟨af, at', lo, hi⟩ := a
      dsimp only
      generalize enterF (toArc (af, at', lo, hi)) now = en at hst hep ⊢
      have hp := hour_prog (u := en) (by omega) (by omega)
      have hlt := hour_lt en
      have hlo : lo.length = 24 := hr.2.2.1
      have hhi : hi.length = 24 := hr.2.2.2.1
      have b1 : 0 ≤ lo.getD (hour en) 0 ∧ lo.getD (hour en) 0 ≤ 600 := Arc.tk_bd hr false en
      have b2 : 0 ≤ hi.getD (hour en) 0 ∧ hi.getD (hour en) 0 ≤ 600 := Arc.tk_bd hr true en
      have b3 : lo.getD (hour en) 0 ≤ hi.getD (hour en) 0 := tk_lh hr en
      have hst2 : ∀ z, lo.getD (hour en) 0 ≤ z ∧ z ≤ hi.getD (hour en) 0 → runW A W false start (k + 1) ≤ en + z ∧ en + z ≤ runW A W true start (k + 1) := hst
      rw [hp, Int.toNat_natCast]
      clear hst hp
      generalize lo.getD (hour en) 0 = cl at *
      generalize hi.getD (hour en) 0 = ch at *
      have w1 : IntKind.i64.wrap (ch - cl) = ch - cl := i64_in _ (by omega)
      have w2 : IntKind.i64.wrap (ch - cl + 1) = ch - cl + 1 := i64_in _ (by omega)
      rw [w1, w2]
      have w3 : IntKind.i64.wrap ((k : Int) + 1) = ((k + 1 : Nat) : Int) := i64_in _ (by omega)
      rw [w3]
      refine ⟨⟨hkl, hw⟩, ⟨hr, (by omega : 0 ≤ now), (by omega : now ≤ 1048576)⟩, ⟨by decide, by decide⟩, ⟨by omega, by omega⟩, fun hkt => ⟨⟨hkt, ⟨by omega, by omega⟩, ⟨by omega, by omega⟩, by omega⟩, ?_⟩, fun hkt => ?_⟩
      · have ht0 : 0 ≤ took.getD k 0 ∧ took.getD k 0 ≤ 65535 := by
          have q := hf.2.2.2.2.1.2 (took.getD k 0) (getD_mem hkt)
          exact q
        have w4 : IntKind.i64.wrap (took.getD k 0) = took.getD k 0 := i64_in _ (by omega)
        rw [w4, Int.tmod_eq_emod_of_nonneg ht0.1]
        have m1 := Int.emod_nonneg (took.getD k 0) (show ch - cl + 1 ≠ 0 by omega)
        have m2 := Int.emod_lt_of_pos (took.getD k 0) (show 0 < ch - cl + 1 by omega)
        generalize took.getD k 0 % (ch - cl + 1) = z at m1 m2 ⊢
        have hz := hst2 (cl + z) (by omega)
        rw [i64_in (cl + z) (by omega), i64_in (en + (cl + z)) (by omega)]
        exact ⟨(k + 1, en + (cl + z)), by dsimp only; omega, ⟨hkl, hz⟩, rfl, rfl⟩
      · have hz := hst2 cl (by omega)
        rw [i64_in (en + cl) (by omega)]
        exact ⟨(k + 1, en + cl), by dsimp only; omega, ⟨hkl, hz⟩, rfl, rfl⟩
    · obtain rfl : k = W.length := by omega
      have hB : l ≤ now ∧ now ≤ h := by rw [el, eh]; exact ⟨k1, k2⟩
      have hw := fun j hj => ((okWay_iff.1 hok) j hj).1
      have w0 := hw 0 hWp
      have wl := hw (W.length - 1) (by omega)
      have e1 : IntKind.i64.wrap ((W.length : Int) - 1) = ((W.length - 1 : Nat) : Int) := by rw [i64_in _ (by omega)]; omega
      rw [e1, Int.toNat_natCast]
      refine ⟨⟨⟨by omega, by omega⟩, w0⟩, fun _ => hB, fun he => ?_⟩
      obtain ⟨hr, hs0, hs1⟩ := earlyF_inv he
      obtain ⟨⟨n1, n2⟩, hAl, hall⟩ := rightR_all hr
      obtain ⟨src, es⟩ : ∃ m : Nat, (A.getD (W.getD 0 0).toNat (0, 0, [], [])).1 = m := ⟨(A.getD (W.getD 0 0).toNat (0, 0, [], [])).1.toNat, by omega⟩
      obtain ⟨n, rfl⟩ : ∃ m : Nat, n = m := ⟨n.toNat, by omega⟩
      rw [es] at hs1 ⊢
      obtain ⟨R, eR, F⟩ := earlyF_ok (hi := false) hr (by omega : src < n) ht
      have hL := F.hL
      have hti := (right_at hr (i := (W.getD (W.length - 1) 0).toNat) (by omega)).2.2
      have hm2 : ∀ j, j < W.length → 0 ≤ runW A W false start (j + 1) ∧ runW A W false start (j + 1) ≤ 1048576 := fun j hj => by
        have := hmono (j + 1) hj
        have s0 := (timeB_iff.1 ht).1
        omega
      have aft := way_after hr ht F hok es hm2 (W.length - 1) (by omega)
      rw [show W.length - 1 + 1 = W.length by omega] at aft
      rw [eR]
      dsimp only
      generalize (A.getD (W.getD (W.length - 1) 0).toNat (0, 0, [], [])).2.1 = to at aft hti ⊢
      generalize (R.getD to.toNat (0, 0)).1 = z at aft ⊢
      refine ⟨⟨⟨by omega, by omega⟩, wl⟩, ⟨fun q => ⟨q, by omega⟩, fun q => ⟨q, by omega⟩⟩, ⟨⟨hB, by omega⟩, by omega⟩, by omega⟩
end T
end Go.Proofs.Ytcjgofcfinbpeaa
