/- PostTells, by the typed walk, 2: a round of its last loop. -/
import Derived.Test.YtiahbkjomegkiaaQ8a
namespace Go.Proofs.Ytiahbkjomegkiaa
set_option linter.unusedVariables false
set_option linter.unusedSimpArgs false
open Go.RowKit Go.IntWalk
namespace T
set_option maxRecDepth 20000 in
set_option maxHeartbeats 4000000 in
theorem teSend (S0 : List ByteArray) (i0 : Int) (E0 : List Int) (A : List DAct) (w0 : DWay) (hA : (A.length : Int) ≤ 40) (j : Nat) (S : List ByteArray) (n : Int) (E : List Int) (hj : j ≤ A.length) (hr : IsRight (S, n, E)) (hl : S.length ≤ 30 + j) (hj' : j < A.length) (e : ByteArray) (q : Int) (hA2 : A.getD j (0, 0, ByteArray.empty) = (0, q, e)) : teR S0 i0 E0 A w0 (j, (S, n, E)) := by
  have w2 : IntKind.i64.wrap ((j : Int) + 1) = ((j + 1 : Nat) : Int) := i64_in _ (by omega)
  have h1 := hr.low
  dsimp only at h1
  obtain ⟨n, rfl⟩ : ∃ z : Nat, n = z := ⟨n.toNat, by omega⟩
  clear h1
  have hn1 := next_here hr
  have he1 := early_here hr
  have ha1 := again_here hr
  have hf1 := flight_of (rightW_iff.2 hr)
  have hhl := here_len (S, n, E)
  have h1 := hr.low
  have h2 := hr.high
  dsimp only at hn1 he1 ha1 h1 h2 hl hhl
  rw [Int.toNat_natCast] at hn1 hf1
  obtain ⟨es, hr2⟩ := send_spec hr (show S.length < 10000 by omega) e
  have hh := here_send hr e
  have hn2 := next_here hr2
  have he2 := early_here hr2
  have ha2 := again_here hr2
  have hf2 := flight_of (rightW_iff.2 hr2)
  have hns : ¬ ((S.length : Int) ≥ 10000) := by omega
  dsimp only at es hr2 hh hn2 he2 ha2
  rw [Int.toNat_natCast] at hn2 hf2
  have hh := hh.symm
  unfold teR teH teK teS
  dsimp only [x3_0, x3_0d, x14, x15]
  simp (maxSteps := 10000000) only [↓hcsTe, entSmall42, entArr, entSend, entAgain, entFlight, entRightW, entSameS, entIntsS, entNextM, entEarlyM, entAgainM, i40, i50, i44, i55, j40, j50, j00, i00, bne_nat, dec_self, hj', hA2, es, w2, hns, hh, hn2, he2, ha2, hf2, sameS_self, nilOf, ↓xwp_top, slicey, oslx, copyx, srcx, ↓xwp_dead, ↓xwp_nxt, nxF, nxT, ↓xwp_rfor, ↓xwp_yld, ↓rndA_n, ↓rndB_n, rndA_x, rndB_x, rndA_r, rndB_r, ↓backR_n, ↓backR_r, backR_e, ↓hasLp_mk, setLp, entY, entR, ylOf, List.zip_cons_cons, List.zip_nil_left, List.zip_nil_right, mapOf, keyOf', ↓leQ_mk, ↓xwp_icall, ↓backQ_n, ↓backQ_r, ↓backQ_e, afterI, entI, exI, oneAV, keepI, XO.reads, XA.slot, eqsx, eqd,  List.drop_zero, List.take_length, Int.toNat_zero, Int.toNat_natCast, List.set_cons_zero, List.set_cons_succ, ↓xwp_clean, tmG, cleanS, headT, numb, rensT, tmle, fastD, runR_true, runR_false, quiet, Eff.tch, ↓xwp_seq, ↓xwp_skip, ↓xwp_ret, ↓xwp_exit, ↓xwp_block, ↓xwp_loop, ↓xwp_reg, ↓xwp_cond, ↓thn_n, ↓thn_e, ↓thn_r, ↓XQ.seq, ↓XQ.blk, List.getElem?_cons_succ, List.getElem?_cons_zero, List.getElem?_nil, runT, stepT, gop, gcond, opg, pickx, boolOf, XOp.isPick, opx, stripL, strip, pur, XO.gv, XA.av, setT, appL, killL, effOk, ltAll, AV.locs, AV.locsL, OB.locs, look, enter, resAVs, binx, intBin, eqx, lenx, condOf, loadx, partOf, storex, splice, cellsOf, scatter, zeroAV, fieldx, faddrx, iaddrx, bounds, avInt, avIntK, avBool, extx, slicex, fillx, rowx, callx, callvx, fn1x, fn2x, findEnt, rdL, rdA, rdClo, rdCap, rd, rd1, rdAgg, rdPtr, rdc, rd1c, ofCst, proj, upd, appendx, srcx, freshEff, ownx, plainArg, Ent.own, Option.isSome_some, Option.isSome_none, minx, Ty.isSt, Ty.size, Ty.scalar, Ty.dflt, cast?_self, List.map_cons, List.map_nil, List.getD_cons_zero, List.getD_cons_succ, List.length_cons, List.length_nil, List.cons_append, List.nil_append, List.append_nil, List.filter_cons, List.filter_nil, List.isEmpty_nil, List.isEmpty_cons, Option.map_some, Option.map_none, Option.bind_some, Option.isNone_none, Option.isNone_some, Bool.false_eq_true, if_true, if_false, ite_true, ite_false, Bool.and_true, Bool.true_and, Bool.and_false, Bool.false_and, and_true, true_and, and_self, not_true_eq_false, not_false_eq_true, imp_self, forall_const, true_imp_iff, implies_true, decide_true, decide_false, cond_true, cond_false, reduceCtorEq, List.find?_cons, List.find?_nil, beq_self_eq_true, List.drop_zero, List.take_zero, List.drop_succ_cons, List.take_succ_cons, Nat.reduceAdd, Nat.reduceSub, Nat.reduceMul, Nat.reduceLT, Nat.reduceLeDiff, Nat.reduceEqDiff, Nat.reduceBEq, Nat.reduceBNe, List.reduceReplicate, reduceIte, retQ, finish, resAll, resAV, freshIs, stepD, runD, okD, meet, reach, reachO, restr, inAll, effIn, headOf, puts, put1, keep, le', autoρ, tidy, renB, rens, ren1, asle, avles, avle, hple, oble, uniq, sub, locOk, assoc, disj, List.all_cons, List.all_nil, List.any_cons, List.any_nil, List.contains_nil, List.contains_cons, List.flatMap_cons, List.flatMap_nil, List.mem_cons, List.not_mem_nil, or_false, false_or, or_true, true_or, or_self, Bool.or_false, Bool.or_true, Bool.true_or, Bool.false_or, Bool.not_true, Bool.not_false, List.take_nil, List.drop_nil, eq_self, Option.some.injEq, false_and, and_false, ↓reduceIte]
  try simp (maxSteps := 10000000) only [i40, i50, i44, i55, j40, j50, j00, i00, bne_nat, dec_self, hns, hh, hn2, he2, ha2, hf2, sameS_self, reduceCtorEq, if_true, if_false, decide_true, decide_false, Bool.false_eq_true, true_imp_iff, not_true_eq_false, not_false_eq_true, false_imp_iff, and_false, false_and, or_false, false_or, eqf, eqt, bif_and, bif_or, Bool.not_not, Bool.not_eq_true', Bool.not_eq_false', Bool.or_eq_true, Bool.or_eq_false_iff, Bool.and_eq_true, Bool.and_eq_false_imp, decide_eq_true_eq, decide_eq_false_iff_not, bne_iff_ne, bne_eq_false_iff_eq, beq_iff_eq, beq_eq_false_iff_ne, ne_eq, Int.toNat_natCast, Int.not_lt, Int.not_le, ge_iff_le, gt_iff_lt, Int.natCast_nonneg, Int.ofNat_lt, imp_self, and_true, true_and, implies_true, Int.ofNat_inj, and_self, Classical.not_not]
  have hok : okM (S ++ [e], hereF (S ++ [e], (n : Int), E)) := ⟨here_len _, by dsimp only; rw [List.length_append, List.length_singleton]; omega⟩
  have hle : (n : Int) ≤ ((S ++ [e]).length : Int) := hr2.high
  exact fun _ => ⟨hj', hj', hj', by omega, by rw [hhl]; omega, ⟨hok, hok, hok, hok, hle, Int.le_refl _⟩, (j + 1, (S ++ [e], (n : Int), E)), by dsimp only; omega, ⟨hj', hr2, by dsimp only; rw [List.length_append, List.length_singleton]; omega⟩, rfl, ⟨rfl, rfl, rfl⟩, rfl, rfl⟩
end T
end Go.Proofs.Ytiahbkjomegkiaa
