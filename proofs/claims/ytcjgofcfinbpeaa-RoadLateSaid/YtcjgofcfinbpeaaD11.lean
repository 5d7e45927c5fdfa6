/- RoadTells, by the typed walk. -/
import Derived.Test.YtcjgofcfinbpeaaD10
namespace Go.Proofs.Ytcjgofcfinbpeaa
set_option linter.unusedVariables false
set_option linter.unusedSimpArgs false
open Go.RowKit Go.IntWalk
theorem runF_length {late : Bool} {E : Nat → Move} {m : Nat} : ∀ (f : Nat) (L : List DLab) (S : List Bool), (runF late E m f L S).length = L.length
  | 0, _, _ => rfl
  | f + 1, L, S => by
    unfold runF
    split
    · rfl
    · rw [runF_length f, relaxTo_length]
theorem searchF_length {late : Bool} {E : Nat → Move} {m n at_ : Nat} {t : Int} : (searchF late E m n at_ t).length = n := by
  unfold searchF
  rw [runF_length, List.length_set, List.length_replicate]
namespace T
theorem earlyF_length (n : Int) (A : List DArc) (src start : Int) (hi : Bool) : (earlyF n A src start hi).1.length ≤ 100000 := by
  unfold earlyF
  split
  · exact Nat.zero_le _
  · rename_i h
    rw [Bool.not_eq_false, Bool.and_eq_true] at h
    have := rightR_all h.1
    dsimp only
    rw [searchF_length]; omega
theorem lateF_length (n : Int) (A : List DArc) (src start : Int) : (lateF n A src start).1.length ≤ 100000 := by
  unfold lateF
  split
  · exact Nat.zero_le _
  · rename_i h
    rw [Bool.not_eq_false, Bool.and_eq_true] at h
    have := rightR_all h.1
    dsimp only
    rw [searchF_length]; omega
def entRTells : Ent := ⟨5, .cons (.int .i64) (.cons (.sl (.st (.cons (.int .i64) (.cons (.int .i64) (.cons (.sl (.int .i64)) (.sl (.int .i64))))))) (.cons (.int .i64) (.cons (.int .i64) (.cons .bool (.cons (.sl (.st (.cons (.int .i64) (.int .i64)))) (.cons (.int .i64) .nil)))))), .bool, false, none, fun _ => True, fun _ => true⟩
def csRt : List Ent := [entSmall11, entFew11, entEarly, entREarly, entLate, entRLate, entSame11, entRoad, entRRoad, entInts11, entWay, entRWay] theorem hcsRt (f : FuncId) : findEnt csRt f = findEnt [entSmall11, entFew11, entEarly, entREarly, entLate, entRLate, entSame11, entRoad, entRRoad, entInts11, entWay, entRWay] f := rfl
theorem conRTells : Con Try.prog entRTells := by
  refine con_is (C := csRt) x5 (by kernel_rfl) (by simp [csRt, conSmall11, conFew11, conEarly, conREarly, conLate, conRLate, conSame11, conRoad, conRRoad, conInts11, conWay, conRWay]) fun x hr hf => ?_
  obtain ⟨(n : Int), (A : List DArc), (src : Int), (start : Int), (hi : Bool), (L : List DLab), (to : Int), _⟩ := x
  dsimp only [entRTells, x5]; simp only [↓hcsRt, entSmall11, entFew11, entEarly, entREarly, entLate, entRLate, entSame11, entRoad, entRRoad, entInts11, entWay, entRWay, nilOf, ↓xwp_top, slicey, oslx, copyx, srcx, ↓xwp_dead, ↓xwp_rfor, ↓xwp_yld, ↓rndA_n, ↓rndB_n, rndA_x, rndB_x, rndA_r, rndB_r, ↓backR_n, ↓backR_r, backR_e, ↓hasLp_mk, setLp, entY, entR, ylOf, List.zip_cons_cons, List.zip_nil_left, List.zip_nil_right, mapOf, keyOf', ↓leQ_mk, ↓xwp_icall, ↓backQ_n, ↓backQ_r, ↓backQ_e, afterI, entI, exI, oneAV, keepI, XO.reads, XA.slot, eqsx, eqd,  List.drop_zero, List.take_length, Int.toNat_zero, Int.toNat_natCast, List.set_cons_zero, List.set_cons_succ, ↓xwp_clean, tmG, cleanS, headT, numb, rensT, tmle, fastD, runR_true, runR_false, quiet, Eff.tch, ↓xwp_seq, ↓xwp_skip, ↓xwp_ret, ↓xwp_exit, ↓xwp_block, ↓xwp_loop, ↓xwp_reg, ↓xwp_cond, ↓thn_n, ↓thn_e, ↓thn_r, ↓XQ.seq, ↓XQ.blk, List.getElem?_cons_succ, List.getElem?_cons_zero, List.getElem?_nil, runT, stepT, gop, gcond, opg, pickx, boolOf, XOp.isPick, opx, stripL, strip, pur, XO.gv, XA.av, setT, appL, killL, effOk, ltAll, AV.locs, AV.locsL, OB.locs, look, enter, resAVs, binx, intBin, eqx, lenx, condOf, loadx, partOf, storex, splice, cellsOf, scatter, zeroAV, fieldx, faddrx, iaddrx, bounds, avInt, avIntK, avBool, extx, slicex, fillx, rowx, callx, callvx, fn1x, fn2x, findEnt, rdL, rdA, rdClo, rdCap, rd, rd1, rdAgg, rdPtr, rdc, rd1c, ofCst, proj, upd, appendx, srcx, freshEff, minx, Ty.isSt, Ty.size, Ty.scalar, Ty.dflt, cast?_self, List.map_cons, List.map_nil, List.getD_cons_zero, List.getD_cons_succ, List.length_cons, List.length_nil, List.cons_append, List.nil_append, List.append_nil, List.filter_cons, List.filter_nil, List.isEmpty_nil, List.isEmpty_cons, Option.map_some, Option.map_none, Option.bind_some, Option.isNone_none, Option.isNone_some, Bool.false_eq_true, if_true, if_false, ite_true, ite_false, Bool.and_true, Bool.true_and, Bool.and_false, Bool.false_and, and_true, true_and, and_self, not_true_eq_false, not_false_eq_true, imp_self, forall_const, true_imp_iff, implies_true, decide_true, decide_false, cond_true, cond_false, reduceCtorEq, List.find?_cons, List.find?_nil, beq_self_eq_true, List.drop_zero, List.take_zero, List.drop_succ_cons, List.take_succ_cons, Nat.reduceAdd, Nat.reduceSub, Nat.reduceMul, Nat.reduceLT, Nat.reduceLeDiff, Nat.reduceEqDiff, Nat.reduceBEq, Nat.reduceBNe, List.reduceReplicate, reduceIte, retQ, finish, resAll, resAV, freshIs, stepD, runD, okD, meet, reach, reachO, restr, inAll, effIn, headOf, puts, put1, keep, le', autoρ, tidy, renB, rens, ren1, asle, avles, avle, hple, oble, uniq, sub, locOk, assoc, disj, List.all_cons, List.all_nil, List.any_cons, List.any_nil, List.contains_nil, List.contains_cons, List.flatMap_cons, List.flatMap_nil, List.mem_cons, List.not_mem_nil, or_false, false_or, or_true, true_or, or_self, Bool.or_false, Bool.or_true, Bool.true_or, Bool.false_or, Bool.not_true, Bool.not_false, List.take_nil, List.drop_nil, eq_self, Option.some.injEq, false_and, and_false, ↓reduceIte]
  simp only [reduceCtorEq, if_true, if_false, decide_true, decide_false, Bool.false_eq_true, true_imp_iff, not_true_eq_false, not_false_eq_true, false_imp_iff, and_false, false_and, or_false, false_or, eqf, eqt, bif_and, bif_or, Bool.not_not, Bool.not_eq_true', Bool.not_eq_false', Bool.or_eq_true, Bool.or_eq_false_iff, Bool.and_eq_true, Bool.and_eq_false_imp, decide_eq_true_eq, decide_eq_false_iff_not, bne_iff_ne, bne_eq_false_iff_eq, beq_iff_eq, beq_eq_false_iff_ne, ne_eq, Int.toNat_natCast, Int.not_lt, Int.not_le, ge_iff_le, gt_iff_lt, Int.natCast_nonneg, Int.ofNat_lt, imp_self, and_true, true_and, implies_true, Int.ofNat_inj, and_self, Classical.not_not]
  intro h
  have h2 : (L.length : Int) ≤ 14 := h.2
  exact ⟨by omega, by omega, earlyF_length n A src start hi⟩
end T
end Go.Proofs.Ytcjgofcfinbpeaa
