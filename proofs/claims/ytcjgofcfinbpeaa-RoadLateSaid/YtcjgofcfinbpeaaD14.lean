/- RoadLate, by the typed walk. -/
import Derived.Test.YtcjgofcfinbpeaaD12
namespace Go.Proofs.Ytcjgofcfinbpeaa
set_option linter.unusedVariables false
set_option linter.unusedSimpArgs false
open Go.RowKit Go.IntWalk
namespace T
def entLawLate : Ent := ⟨8, .cons (.int .i64) (.cons (.sl (.st (.cons (.int .i64) (.cons (.int .i64) (.cons (.sl (.int .i64)) (.sl (.int .i64))))))) (.cons (.int .i64) (.cons (.int .i64) .nil))), .bool, false, none, fun _ => True, fun _ => true⟩
def csLl : List Ent := [entSmall11, entFew11, entRoad, entTimeR, entLate, entEarly] theorem hcsLl (f : FuncId) : findEnt csLl f = findEnt [entSmall11, entFew11, entRoad, entTimeR, entLate, entEarly] f := rfl
theorem conLawLate : Con Try.prog entLawLate := by
  refine con_is (C := csLl) x8 (by kernel_rfl) (by simp [csLl, conSmall11, conFew11, conRoad, conTimeR, conLate, conEarly]) fun x hpre hf => ?_
  obtain ⟨(n : Int), (A : List DArc), (to : Int), (by_ : Int), _⟩ := x
  dsimp only [entLawLate, x8]; simp only [↓hcsLl, entSmall11, entFew11, entRoad, entTimeR, entLate, entEarly, nilOf, ↓xwp_top, slicey, oslx, copyx, srcx, ↓xwp_dead, ↓xwp_rfor, ↓xwp_yld, ↓rndA_n, ↓rndB_n, rndA_x, rndB_x, rndA_r, rndB_r, ↓backR_n, ↓backR_r, backR_e, ↓hasLp_mk, setLp, entY, entR, ylOf, List.zip_cons_cons, List.zip_nil_left, List.zip_nil_right, mapOf, keyOf', ↓leQ_mk, ↓xwp_icall, ↓backQ_n, ↓backQ_r, ↓backQ_e, afterI, entI, exI, oneAV, keepI, XO.reads, XA.slot, eqsx, eqd,  List.drop_zero, List.take_length, Int.toNat_zero, Int.toNat_natCast, List.set_cons_zero, List.set_cons_succ, ↓xwp_clean, tmG, cleanS, headT, numb, rensT, tmle, fastD, runR_true, runR_false, quiet, Eff.tch, ↓xwp_seq, ↓xwp_skip, ↓xwp_ret, ↓xwp_exit, ↓xwp_block, ↓xwp_loop, ↓xwp_reg, ↓xwp_cond, ↓thn_n, ↓thn_e, ↓thn_r, ↓XQ.seq, ↓XQ.blk, List.getElem?_cons_succ, List.getElem?_cons_zero, List.getElem?_nil, runT, stepT, gop, gcond, opg, pickx, boolOf, XOp.isPick, opx, stripL, strip, pur, XO.gv, XA.av, setT, appL, killL, effOk, ltAll, AV.locs, AV.locsL, OB.locs, look, enter, resAVs, binx, intBin, eqx, lenx, condOf, loadx, partOf, storex, splice, cellsOf, scatter, zeroAV, fieldx, faddrx, iaddrx, bounds, avInt, avIntK, avBool, extx, slicex, fillx, rowx, callx, callvx, fn1x, fn2x, findEnt, rdL, rdA, rdClo, rdCap, rd, rd1, rdAgg, rdPtr, rdc, rd1c, ofCst, proj, upd, appendx, srcx, freshEff, minx, Ty.isSt, Ty.size, Ty.scalar, Ty.dflt, cast?_self, List.map_cons, List.map_nil, List.getD_cons_zero, List.getD_cons_succ, List.length_cons, List.length_nil, List.cons_append, List.nil_append, List.append_nil, List.filter_cons, List.filter_nil, List.isEmpty_nil, List.isEmpty_cons, Option.map_some, Option.map_none, Option.bind_some, Option.isNone_none, Option.isNone_some, Bool.false_eq_true, if_true, if_false, ite_true, ite_false, Bool.and_true, Bool.true_and, Bool.and_false, Bool.false_and, and_true, true_and, and_self, not_true_eq_false, not_false_eq_true, imp_self, forall_const, true_imp_iff, implies_true, decide_true, decide_false, cond_true, cond_false, reduceCtorEq, List.find?_cons, List.find?_nil, beq_self_eq_true, List.drop_zero, List.take_zero, List.drop_succ_cons, List.take_succ_cons, Nat.reduceAdd, Nat.reduceSub, Nat.reduceMul, Nat.reduceLT, Nat.reduceLeDiff, Nat.reduceEqDiff, Nat.reduceBEq, Nat.reduceBNe, List.reduceReplicate, reduceIte, retQ, finish, resAll, resAV, freshIs, stepD, runD, okD, meet, reach, reachO, restr, inAll, effIn, headOf, puts, put1, keep, le', autoρ, tidy, renB, rens, ren1, asle, avles, avle, hple, oble, uniq, sub, locOk, assoc, disj, List.all_cons, List.all_nil, List.any_cons, List.any_nil, List.contains_nil, List.contains_cons, List.flatMap_cons, List.flatMap_nil, List.mem_cons, List.not_mem_nil, or_false, false_or, or_true, true_or, or_self, Bool.or_false, Bool.or_true, Bool.true_or, Bool.false_or, Bool.not_true, Bool.not_false, List.take_nil, List.drop_nil, eq_self, Option.some.injEq, false_and, and_false, ↓reduceIte]
  simp only [reduceCtorEq, if_true, if_false, decide_true, decide_false, Bool.false_eq_true, true_imp_iff, not_true_eq_false, not_false_eq_true, false_imp_iff, and_false, false_and, or_false, false_or, eqf, eqt, bif_and, bif_or, Bool.not_not, Bool.not_eq_true', Bool.not_eq_false', Bool.or_eq_true, Bool.or_eq_false_iff, Bool.and_eq_true, Bool.and_eq_false_imp, decide_eq_true_eq, decide_eq_false_iff_not, bne_iff_ne, bne_eq_false_iff_eq, beq_iff_eq, beq_eq_false_iff_ne, ne_eq, Int.toNat_natCast, Int.not_lt, Int.not_le, ge_iff_le, gt_iff_lt, Int.natCast_nonneg, Int.ofNat_lt, imp_self, and_true, true_and, implies_true, Int.ofNat_inj, and_self, Classical.not_not]
  intro h
  have hr := h.1.1.1.2
  obtain ⟨⟨n1, n2⟩, hAl, hall⟩ := rightR_all hr
  have hn12 : n ≤ 12 := few11_n h.1.1.1.1 n2
  obtain ⟨n, rfl⟩ : ∃ m : Nat, n = m := ⟨n.toNat, by omega⟩
  obtain ⟨to, rfl⟩ : ∃ m : Nat, to = m := ⟨to.toNat, by omega⟩
  obtain ⟨R, eR, F⟩ := lateF_ok hr (by omega : to < n) h.2
  have hL := F.hL
  simp only [eR]
  refine ⟨fun c => ?_, fun _ => ?_⟩
  · rcases c with (c | c) | c
    · exact c trivial
    · exact c (by rw [hL])
    · omega
  refine XW_for 1000 x8_0d [] Nat (fun v => [(12, .val (.int .i64) (v : Int))]) (fun _ => []) (fun v => v ≤ n) (fun v => n - v) 0 ?_ ?_ ?_
  · dsimp only [x8_0d]
    simp only [nilOf, ↓xwp_top, slicey, oslx, copyx, srcx, ↓xwp_dead, ↓xwp_rfor, ↓xwp_yld, ↓rndA_n, ↓rndB_n, rndA_x, rndB_x, rndA_r, rndB_r, ↓backR_n, ↓backR_r, backR_e, ↓hasLp_mk, setLp, entY, entR, ylOf, List.zip_cons_cons, List.zip_nil_left, List.zip_nil_right, mapOf, keyOf', ↓leQ_mk, ↓xwp_icall, ↓backQ_n, ↓backQ_r, ↓backQ_e, afterI, entI, exI, oneAV, keepI, XO.reads, XA.slot, eqsx, eqd,  List.drop_zero, List.take_length, Int.toNat_zero, Int.toNat_natCast, List.set_cons_zero, List.set_cons_succ, ↓xwp_clean, tmG, cleanS, headT, numb, rensT, tmle, fastD, runR_true, runR_false, quiet, Eff.tch, ↓xwp_seq, ↓xwp_skip, ↓xwp_ret, ↓xwp_exit, ↓xwp_block, ↓xwp_loop, ↓xwp_reg, ↓xwp_cond, ↓thn_n, ↓thn_e, ↓thn_r, ↓XQ.seq, ↓XQ.blk, List.getElem?_cons_succ, List.getElem?_cons_zero, List.getElem?_nil, runT, stepT, gop, gcond, opg, pickx, boolOf, XOp.isPick, opx, stripL, strip, pur, XO.gv, XA.av, setT, appL, killL, effOk, ltAll, AV.locs, AV.locsL, OB.locs, look, enter, resAVs, binx, intBin, eqx, lenx, condOf, loadx, partOf, storex, splice, cellsOf, scatter, zeroAV, fieldx, faddrx, iaddrx, bounds, avInt, avIntK, avBool, extx, slicex, fillx, rowx, callx, callvx, fn1x, fn2x, findEnt, rdL, rdA, rdClo, rdCap, rd, rd1, rdAgg, rdPtr, rdc, rd1c, ofCst, proj, upd, appendx, srcx, freshEff, minx, Ty.isSt, Ty.size, Ty.scalar, Ty.dflt, cast?_self, List.map_cons, List.map_nil, List.getD_cons_zero, List.getD_cons_succ, List.length_cons, List.length_nil, List.cons_append, List.nil_append, List.append_nil, List.filter_cons, List.filter_nil, List.isEmpty_nil, List.isEmpty_cons, Option.map_some, Option.map_none, Option.bind_some, Option.isNone_none, Option.isNone_some, Bool.false_eq_true, if_true, if_false, ite_true, ite_false, Bool.and_true, Bool.true_and, Bool.and_false, Bool.false_and, and_true, true_and, and_self, not_true_eq_false, not_false_eq_true, imp_self, forall_const, true_imp_iff, implies_true, decide_true, decide_false, cond_true, cond_false, reduceCtorEq, List.find?_cons, List.find?_nil, beq_self_eq_true, List.drop_zero, List.take_zero, List.drop_succ_cons, List.take_succ_cons, Nat.reduceAdd, Nat.reduceSub, Nat.reduceMul, Nat.reduceLT, Nat.reduceLeDiff, Nat.reduceEqDiff, Nat.reduceBEq, Nat.reduceBNe, List.reduceReplicate, reduceIte, retQ, finish, resAll, resAV, freshIs, stepD, runD, okD, meet, reach, reachO, restr, inAll, effIn, headOf, puts, put1, keep, le', autoρ, tidy, renB, rens, ren1, asle, avles, avle, hple, oble, uniq, sub, locOk, assoc, disj, List.all_cons, List.all_nil, List.any_cons, List.any_nil, List.contains_nil, List.contains_cons, List.flatMap_cons, List.flatMap_nil, List.mem_cons, List.not_mem_nil, or_false, false_or, or_true, true_or, or_self, Bool.or_false, Bool.or_true, Bool.true_or, Bool.false_or, Bool.not_true, Bool.not_false, List.take_nil, List.drop_nil, eq_self, Option.some.injEq, false_and, and_false, ↓reduceIte]
    rfl
  · exact Nat.zero_le _
  · intro v hv
    dsimp only [x8_0, x8_0d]
    simp only [↓hcsLl, entSmall11, entFew11, entRoad, entTimeR, entLate, entEarly, nilOf, ↓xwp_top, slicey, oslx, copyx, srcx, ↓xwp_dead, ↓xwp_rfor, ↓xwp_yld, ↓rndA_n, ↓rndB_n, rndA_x, rndB_x, rndA_r, rndB_r, ↓backR_n, ↓backR_r, backR_e, ↓hasLp_mk, setLp, entY, entR, ylOf, List.zip_cons_cons, List.zip_nil_left, List.zip_nil_right, mapOf, keyOf', ↓leQ_mk, ↓xwp_icall, ↓backQ_n, ↓backQ_r, ↓backQ_e, afterI, entI, exI, oneAV, keepI, XO.reads, XA.slot, eqsx, eqd,  List.drop_zero, List.take_length, Int.toNat_zero, Int.toNat_natCast, List.set_cons_zero, List.set_cons_succ, ↓xwp_clean, tmG, cleanS, headT, numb, rensT, tmle, fastD, runR_true, runR_false, quiet, Eff.tch, ↓xwp_seq, ↓xwp_skip, ↓xwp_ret, ↓xwp_exit, ↓xwp_block, ↓xwp_loop, ↓xwp_reg, ↓xwp_cond, ↓thn_n, ↓thn_e, ↓thn_r, ↓XQ.seq, ↓XQ.blk, List.getElem?_cons_succ, List.getElem?_cons_zero, List.getElem?_nil, runT, stepT, gop, gcond, opg, pickx, boolOf, XOp.isPick, opx, stripL, strip, pur, XO.gv, XA.av, setT, appL, killL, effOk, ltAll, AV.locs, AV.locsL, OB.locs, look, enter, resAVs, binx, intBin, eqx, lenx, condOf, loadx, partOf, storex, splice, cellsOf, scatter, zeroAV, fieldx, faddrx, iaddrx, bounds, avInt, avIntK, avBool, extx, slicex, fillx, rowx, callx, callvx, fn1x, fn2x, findEnt, rdL, rdA, rdClo, rdCap, rd, rd1, rdAgg, rdPtr, rdc, rd1c, ofCst, proj, upd, appendx, srcx, freshEff, minx, Ty.isSt, Ty.size, Ty.scalar, Ty.dflt, cast?_self, List.map_cons, List.map_nil, List.getD_cons_zero, List.getD_cons_succ, List.length_cons, List.length_nil, List.cons_append, List.nil_append, List.append_nil, List.filter_cons, List.filter_nil, List.isEmpty_nil, List.isEmpty_cons, Option.map_some, Option.map_none, Option.bind_some, Option.isNone_none, Option.isNone_some, Bool.false_eq_true, if_true, if_false, ite_true, ite_false, Bool.and_true, Bool.true_and, Bool.and_false, Bool.false_and, and_true, true_and, and_self, not_true_eq_false, not_false_eq_true, imp_self, forall_const, true_imp_iff, implies_true, decide_true, decide_false, cond_true, cond_false, reduceCtorEq, List.find?_cons, List.find?_nil, beq_self_eq_true, List.drop_zero, List.take_zero, List.drop_succ_cons, List.take_succ_cons, Nat.reduceAdd, Nat.reduceSub, Nat.reduceMul, Nat.reduceLT, Nat.reduceLeDiff, Nat.reduceEqDiff, Nat.reduceBEq, Nat.reduceBNe, List.reduceReplicate, reduceIte, retQ, finish, resAll, resAV, freshIs, stepD, runD, okD, meet, reach, reachO, restr, inAll, effIn, headOf, puts, put1, keep, le', autoρ, tidy, renB, rens, ren1, asle, avles, avle, hple, oble, uniq, sub, locOk, assoc, disj, List.all_cons, List.all_nil, List.any_cons, List.any_nil, List.contains_nil, List.contains_cons, List.flatMap_cons, List.flatMap_nil, List.mem_cons, List.not_mem_nil, or_false, false_or, or_true, true_or, or_self, Bool.or_false, Bool.or_true, Bool.true_or, Bool.false_or, Bool.not_true, Bool.not_false, List.take_nil, List.drop_nil, eq_self, Option.some.injEq, false_and, and_false, ↓reduceIte]
    try simp only [reduceCtorEq, if_true, if_false, decide_true, decide_false, Bool.false_eq_true, true_imp_iff, not_true_eq_false, not_false_eq_true, false_imp_iff, and_false, false_and, or_false, false_or, eqf, eqt, bif_and, bif_or, Bool.not_not, Bool.not_eq_true', Bool.not_eq_false', Bool.or_eq_true, Bool.or_eq_false_iff, Bool.and_eq_true, Bool.and_eq_false_imp, decide_eq_true_eq, decide_eq_false_iff_not, bne_iff_ne, bne_eq_false_iff_eq, beq_iff_eq, beq_eq_false_iff_ne, ne_eq, Int.toNat_natCast, Int.not_lt, Int.not_le, ge_iff_le, gt_iff_lt, Int.natCast_nonneg, Int.ofNat_lt, imp_self, and_true, true_and, implies_true, Int.ofNat_inj, and_self, Classical.not_not]
    have w2 : IntKind.i64.wrap ((v : Int) + 1) = ((v + 1 : Nat) : Int) := i64_in _ (by omega)
    intro hvn
    have nx : ∃ x' : Nat, n - x' < n - v ∧ x' ≤ n ∧ IntKind.i64.wrap ((v : Int) + 1) = (x' : Int) := ⟨v + 1, by omega, by omega, w2⟩
    have hby := timeB_iff.1 h.2
    have hle := late_le hr F v hvn
    have hval := F.val v hvn
    have P1 : 0 ≤ (R.getD v (0, 0)).1 → (earlyF n A v (R.getD v (0, 0)).1 true).2.1 = 0 ∧ List.length (earlyF n A v (R.getD v (0, 0)).1 true).1 = n ∧ 0 ≤ ((earlyF n A v (R.getD v (0, 0)).1 true).1.getD to (0, 0)).1 ∧ ((earlyF n A v (R.getD v (0, 0)).1 true).1.getD to (0, 0)).1 ≤ by_ := fun h0 => by
      obtain ⟨Ra, ea, Fa⟩ := earlyF_ok (hi := true) hr hvn (found_tm F hvn h0)
      rw [ea]
      exact ⟨rfl, Fa.hL, late_in hr (by omega) F Fa hvn h0 rfl⟩
    have P2 : IntKind.i64.wrap ((R.getD v (0, 0)).1 + 1) ≤ 1048576 → (earlyF n A v (IntKind.i64.wrap ((R.getD v (0, 0)).1 + 1)) true).2.1 = 0 ∧ List.length (earlyF n A v (IntKind.i64.wrap ((R.getD v (0, 0)).1 + 1)) true).1 = n ∧ ¬ (0 ≤ ((earlyF n A v (IntKind.i64.wrap ((R.getD v (0, 0)).1 + 1)) true).1.getD to (0, 0)).1 ∧ ((earlyF n A v (IntKind.i64.wrap ((R.getD v (0, 0)).1 + 1)) true).1.getD to (0, 0)).1 ≤ by_) := fun h0 => by
      have hb : -1 ≤ (R.getD v (0, 0)).1 ∧ (R.getD v (0, 0)).1 ≤ 1048576 := by
        rcases hval with q | q
        · rw [q]; decide
        · have := timeB_iff.1 q; omega
      have w3 : IntKind.i64.wrap ((R.getD v (0, 0)).1 + 1) = (R.getD v (0, 0)).1 + 1 := i64_in _ (by omega)
      rw [w3] at h0 ⊢
      obtain ⟨Rb, eb, Fb⟩ := earlyF_ok (hi := true) hr hvn (start := (R.getD v (0, 0)).1 + 1) (timeB_iff.2 ⟨by omega, by omega⟩)
      rw [eb]
      exact ⟨rfl, Fb.hL, late_out hr (by omega) F Fb (by omega) hby.1⟩
    have hge : -1 ≤ (R.getD v (0, 0)).1 := by
      rcases hval with q | q
      · rw [q]; decide
      · have := timeB_iff.1 q; omega
    clear hval
    generalize IntKind.i64.wrap ((R.getD v (0, 0)).1 + 1) = t2 at P2 ⊢
    generalize (R.getD v (0, 0)).1 = t1 at P1 hge hle ⊢
    generalize earlyF n A v t1 true = e1 at P1 ⊢
    generalize earlyF n A v t2 true = e2 at P2 ⊢
    refine ⟨by omega, fun q => ?_, fun _ => ⟨fun h0 => ?_, fun h0 => ⟨fun _ => nx, fun h1 => ?_⟩⟩⟩
    · by_cases q0 : 0 ≤ t1
      · have := hle q0; omega
      · omega
    · obtain ⟨a1, a2, a3, a4⟩ := P1 h0
      refine ⟨fun q => q.elim (fun q => q a1) (fun q => q a2), fun _ => ⟨⟨by omega, fun q => ⟨q, by omega⟩⟩, fun q => by omega, fun _ => ⟨fun _ => nx, fun h1 => ?_⟩⟩⟩
      obtain ⟨b1, b2, b3⟩ := P2 h1
      exact ⟨fun q => q.elim (fun q => q b1) (fun q => q b2), fun _ => ⟨⟨by omega, fun q => ⟨q, by omega⟩⟩, fun q => b3 q, fun _ => nx⟩⟩
    · obtain ⟨b1, b2, b3⟩ := P2 h1
      exact ⟨fun q => q.elim (fun q => q b1) (fun q => q b2), fun _ => ⟨⟨by omega, fun q => ⟨q, by omega⟩⟩, fun q => b3 q, fun _ => nx⟩⟩
end T
end Go.Proofs.Ytcjgofcfinbpeaa
