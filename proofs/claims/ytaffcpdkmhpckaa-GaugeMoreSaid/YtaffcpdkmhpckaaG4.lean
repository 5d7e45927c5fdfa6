/- The examples of round 14. -/
import Derived.Test.YtaffcpdkmhpckaaG3
namespace Go.Proofs.Ytaffcpdkmhpckaa
set_option linter.unusedVariables false
set_option linter.unusedSimpArgs false
open Go.RowKit Go.IntWalk
namespace T
def oneL : List Int := (List.replicate 24 10).set 8 17
def oneH : List Int := (List.replicate 24 50).set 8 28
def ten : List Int := List.replicate 24 10
theorem t1 : tightF (toArc wideD) (List.map toObs (seenL [20, 22, 25, 21, 24])) = ((0, 0, oneL, oneH), [], 0, ()) := by kernel_rfl
theorem t2 : tightF (toArc wideD) (List.map toObs (seenL [20, 22, 25, 21])) = (wideD, [], 0, ()) := by kernel_rfl
theorem t3 : tightF (toArc wideD) (List.map toObs (seenL [20, 22, 25, 21, 24, 60, 9, 12])) = ((0, 0, ten, oneH), [5, 6], 0, ()) := by kernel_rfl
theorem l1 : List.length (α := Int) oneL = 24 := by kernel_rfl
theorem l2 : List.length (α := Int) oneH = 24 := by kernel_rfl
theorem l3 : List.length (α := Int) ten = 24 := by kernel_rfl
theorem g1 : oneL.getD (Int.toNat 8) 0 = 17 := by kernel_rfl
theorem g2 : oneH.getD (Int.toNat 8) 0 = 28 := by kernel_rfl
theorem g3 : oneL.getD (Int.toNat 9) 0 = 10 := by kernel_rfl
theorem g4 : oneH.getD (Int.toNat 7) 0 = 50 := by kernel_rfl
theorem g5 : ten.getD (Int.toNat 8) 0 = 10 := by kernel_rfl
theorem c24 : ((24 : Nat) : Int) = 24 := rfl
theorem c0 : ((0 : Nat) : Int) = 0 := rfl
theorem i8 : (0 : Int) ≤ 8 ∧ (8 : Int) < 24 := by decide
theorem i9 : (0 : Int) ≤ 9 ∧ (9 : Int) < 24 := by decide
theorem i7 : (0 : Int) ≤ 7 ∧ (7 : Int) < 24 := by decide
def entSmall14 : Ent := ⟨8, .nil, .bool, false, none, fun _ => True, fun _ => true⟩
set_option maxRecDepth 10000 in
theorem conSmall14 : Con Try.prog entSmall14 := by
  refine con_is (C := [entWide, entSeen, entTighten, entSame, entInts, entGaugeRight]) x8 (by kernel_rfl) (by simp [conWide, conSeen, conTighten, conSame, conInts, conGaugeRight]) fun x _ hf => ?_
  dsimp only [entWide, entSeen, entTighten, entSame, entInts, entGaugeRight, entSmall14, x8]; simp only [t1, t2, t3, l1, l2, l3, g1, g2, g3, g4, g5, c24, c0, i8, i9, i7, bne_self_eq_false, List.set_cons_zero, List.set_cons_succ, ↓xwp_clean, tmG, cleanS, headT, numb, rensT, tmle, fastD, runR_true, runR_false, quiet, Eff.tch, ↓xwp_seq, ↓xwp_skip, ↓xwp_ret, ↓xwp_exit, ↓xwp_block, ↓xwp_loop, ↓xwp_reg, ↓xwp_cond, ↓thn_n, ↓thn_e, ↓thn_r, ↓XQ.seq, ↓XQ.blk, List.getElem?_cons_succ, List.getElem?_cons_zero, List.getElem?_nil, runT, stepT, gop, gcond, opg, pickx, boolOf, XOp.isPick, opx, stripL, strip, pur, XO.gv, XA.av, setT, appL, killL, effOk, ltAll, AV.locs, AV.locsL, OB.locs, look, enter, resAVs, binx, intBin, eqx, lenx, condOf, loadx, partOf, storex, splice, cellsOf, scatter, zeroAV, fieldx, faddrx, iaddrx, bounds, avInt, avIntK, avBool, extx, slicex, fillx, rowx, callx, callvx, fn1x, fn2x, findEnt, rdL, rdA, rdClo, rdCap, rd, rd1, rdAgg, rdPtr, rdc, rd1c, ofCst, proj, upd, appendx, srcx, freshEff, minx, Ty.isSt, Ty.size, Ty.scalar, Ty.dflt, cast?_self, List.map_cons, List.map_nil, List.getD_cons_zero, List.getD_cons_succ, List.length_cons, List.length_nil, List.cons_append, List.nil_append, List.append_nil, List.filter_cons, List.filter_nil, List.isEmpty_nil, List.isEmpty_cons, Option.map_some, Option.map_none, Option.bind_some, Option.isNone_none, Option.isNone_some, Bool.false_eq_true, if_true, if_false, ite_true, ite_false, Bool.and_true, Bool.true_and, Bool.and_false, Bool.false_and, and_true, true_and, and_self, not_true_eq_false, not_false_eq_true, imp_self, forall_const, true_imp_iff, implies_true, decide_true, decide_false, cond_true, cond_false, reduceCtorEq, List.find?_cons, List.find?_nil, beq_self_eq_true, List.drop_zero, List.take_zero, List.drop_succ_cons, List.take_succ_cons, Nat.reduceAdd, Nat.reduceSub, Nat.reduceMul, Nat.reduceLT, Nat.reduceLeDiff, Nat.reduceEqDiff, Nat.reduceBEq, Nat.reduceBNe, List.reduceReplicate, reduceIte, retQ, finish, resAll, resAV, freshIs, stepD, runD, okD, meet, reach, restr, inAll, effIn, headOf, puts, put1, keep, le', autoρ, tidy, renB, rens, ren1, asle, avles, avle, hple, oble, uniq, sub, locOk, assoc, disj, List.all_cons, List.all_nil, List.any_cons, List.any_nil, List.contains_nil, List.contains_cons, List.flatMap_cons, List.flatMap_nil, List.mem_cons, List.not_mem_nil, or_false, false_or, or_true, true_or, or_self, Bool.or_false, Bool.or_true, Bool.true_or, Bool.false_or, Bool.not_true, Bool.not_false, List.take_nil, List.drop_nil, eq_self, Option.some.injEq, false_and, and_false, ↓reduceIte]
  first | (refine ⟨?_, ?_⟩ <;> decide +kernel) | decide +kernel
end T
end Go.Proofs.Ytaffcpdkmhpckaa
