/- Searches on roads: the reference's Late. -/
import Derived.Test.YtcjgofcfinbpeaaD5
import Derived.Test.YtcjgofcfinbpeaaD3
namespace Go.Proofs.Ytcjgofcfinbpeaa
set_option linter.unusedVariables false
set_option linter.unusedSimpArgs false
open Go.RowKit Go.IntWalk
namespace T
def entRLate : Ent := ⟨23, .cons (.int .i64) (.cons (.sl (.st (.cons (.int .i64) (.cons (.int .i64) (.cons (.sl (.int .i64)) (.sl (.int .i64))))))) (.cons (.int .i64) (.cons (.int .i64) .nil))), .cons (.sl (.st (.cons (.int .i64) (.int .i64)))) (.cons (.int .i64) .nil), true, none, fun _ => True, fun x => lateF x.1 x.2.1 x.2.2.1 x.2.2.2.1⟩
theorem last_rng (a : Arc) (b : Int) : -1 ≤ a.lastF true b ∧ a.lastF true b ≤ 1048576 := by
  unfold Arc.lastF
  split
  · have := a.last_is true b; exact ⟨this.1, this.2.1⟩
  · decide
theorem reachF_ge {late : Bool} {S : List Bool} {L : List DLab} {v : Nat} {t by_ : Int} (h : ∀ k, -1 ≤ (L.getD k (0, 0)).1) (k : Nat) : -1 ≤ ((reachF late S L v t by_).getD k (0, 0)).1 := by
  unfold reachF
  split
  · exact h k
  · rename_i h1
    split
    · rw [List.getD_eq_getElem?_getD, List.getElem?_set]
      split
      · split
        · have h2 : timeB t = true := by simpa using (not_or.1 h1).2
          have h3 : isTime t := of_decide_eq_true h2
          have := h3.1
          show -1 ≤ t
          omega
        · decide
      · rw [← List.getD_eq_getElem?_getD]; exact h k
    · exact h k
theorem relaxTo_ge {late : Bool} {E : Nat → Move} {S : List Bool} {u : Nat} {L : List DLab} (h : ∀ k, -1 ≤ (L.getD k (0, 0)).1) : ∀ m k, -1 ≤ ((relaxTo late E S u m L).getD k (0, 0)).1
  | 0 => h
  | m + 1 => by
    have ih := relaxTo_ge (late := late) (E := E) (S := S) (u := u) h m
    unfold relaxTo
    split
    · exact reachF_ge ih
    · exact ih
def csRl : List Ent := [entRRoad, entTimeR, entNone, entRLast] theorem hcsRl (f : FuncId) : findEnt csRl f = findEnt [entRRoad, entTimeR, entNone, entRLast] f := rfl
theorem conRLate : Con Try.prog entRLate := by
  refine con_is (C := csRl) x23 (by kernel_rfl) (by simp [csRl, conRRoad, conTimeR, conNone, conRLast]) fun x hx hf => ?_
  obtain ⟨(n : Int), (A : List DArc), (src : Int), (start : Int), _⟩ := x
  dsimp only [entRLate, x23]; simp only [↓hcsRl, entRRoad, entTimeR, entNone, entRLast, nilOf, ↓xwp_top, slicey, oslx, copyx, srcx, ↓xwp_dead, ↓xwp_rfor, ↓xwp_yld, ↓rndA_n, ↓rndB_n, rndA_x, rndB_x, rndA_r, rndB_r, ↓backR_n, ↓backR_r, backR_e, ↓hasLp_mk, setLp, entY, entR, ylOf, List.zip_cons_cons, List.zip_nil_left, List.zip_nil_right, mapOf, keyOf', ↓leQ_mk, ↓xwp_icall, ↓backQ_n, ↓backQ_r, ↓backQ_e, afterI, entI, exI, oneAV, keepI, XO.reads, XA.slot, eqsx, eqd,  List.drop_zero, List.take_length, Int.toNat_zero, Int.toNat_natCast, List.set_cons_zero, List.set_cons_succ, ↓xwp_clean, tmG, cleanS, headT, numb, rensT, tmle, fastD, runR_true, runR_false, quiet, Eff.tch, ↓xwp_seq, ↓xwp_skip, ↓xwp_ret, ↓xwp_exit, ↓xwp_block, ↓xwp_loop, ↓xwp_reg, ↓xwp_cond, ↓thn_n, ↓thn_e, ↓thn_r, ↓XQ.seq, ↓XQ.blk, List.getElem?_cons_succ, List.getElem?_cons_zero, List.getElem?_nil, runT, stepT, gop, gcond, opg, pickx, boolOf, XOp.isPick, opx, stripL, strip, pur, XO.gv, XA.av, setT, appL, killL, effOk, ltAll, AV.locs, AV.locsL, OB.locs, look, enter, resAVs, binx, intBin, eqx, lenx, condOf, loadx, partOf, storex, splice, cellsOf, scatter, zeroAV, fieldx, faddrx, iaddrx, bounds, avInt, avIntK, avBool, extx, slicex, fillx, rowx, callx, callvx, fn1x, fn2x, findEnt, rdL, rdA, rdClo, rdCap, rd, rd1, rdAgg, rdPtr, rdc, rd1c, ofCst, proj, upd, appendx, srcx, freshEff, minx, Ty.isSt, Ty.size, Ty.scalar, Ty.dflt, cast?_self, List.map_cons, List.map_nil, List.getD_cons_zero, List.getD_cons_succ, List.length_cons, List.length_nil, List.cons_append, List.nil_append, List.append_nil, List.filter_cons, List.filter_nil, List.isEmpty_nil, List.isEmpty_cons, Option.map_some, Option.map_none, Option.bind_some, Option.isNone_none, Option.isNone_some, Bool.false_eq_true, if_true, if_false, ite_true, ite_false, Bool.and_true, Bool.true_and, Bool.and_false, Bool.false_and, and_true, true_and, and_self, not_true_eq_false, not_false_eq_true, imp_self, forall_const, true_imp_iff, implies_true, decide_true, decide_false, cond_true, cond_false, reduceCtorEq, List.find?_cons, List.find?_nil, beq_self_eq_true, List.drop_zero, List.take_zero, List.drop_succ_cons, List.take_succ_cons, Nat.reduceAdd, Nat.reduceSub, Nat.reduceMul, Nat.reduceLT, Nat.reduceLeDiff, Nat.reduceEqDiff, Nat.reduceBEq, Nat.reduceBNe, List.reduceReplicate, reduceIte, retQ, finish, resAll, resAV, freshIs, stepD, runD, okD, meet, reach, reachO, restr, inAll, effIn, headOf, puts, put1, keep, le', autoρ, tidy, renB, rens, ren1, asle, avles, avle, hple, oble, uniq, sub, locOk, assoc, disj, List.all_cons, List.all_nil, List.any_cons, List.any_nil, List.contains_nil, List.contains_cons, List.flatMap_cons, List.flatMap_nil, List.mem_cons, List.not_mem_nil, or_false, false_or, or_true, true_or, or_self, Bool.or_false, Bool.or_true, Bool.true_or, Bool.false_or, Bool.not_true, Bool.not_false, List.take_nil, List.drop_nil, eq_self, Option.some.injEq, false_and, and_false, ↓reduceIte]
  simp only [reduceCtorEq, if_true, if_false, decide_true, decide_false, Bool.false_eq_true, true_imp_iff, not_true_eq_false, not_false_eq_true, false_imp_iff, and_false, false_and, or_false, false_or, eqf, eqt, bif_and, bif_or, Bool.not_not, Bool.not_eq_true', Bool.not_eq_false', Bool.or_eq_true, Bool.or_eq_false_iff, Bool.and_eq_true, Bool.and_eq_false_imp, decide_eq_true_eq, decide_eq_false_iff_not, bne_iff_ne, bne_eq_false_iff_eq, beq_iff_eq, beq_eq_false_iff_ne, ne_eq, Int.toNat_natCast, Int.not_lt, Int.not_le, ge_iff_le, gt_iff_lt, Int.natCast_nonneg, Int.ofNat_lt, imp_self, and_true, true_and, implies_true, Int.ofNat_inj, and_self, Classical.not_not]; try dsimp only [Ty.den]
  refine ⟨fun h => ?_, fun h => ?_⟩
  · unfold lateF
    rw [if_pos]
    cases h1 : rightR n A with
    | false => rfl
    | true =>
      rw [Bool.true_and, Bool.and_eq_false_iff, Bool.and_eq_false_iff, decide_eq_false_iff_not, decide_eq_false_iff_not]
      rcases h with ((h | h) | h) | h
      · rw [h1] at h; cases h
      · exact .inl (by omega)
      · exact .inr (.inl (by omega))
      · exact .inr (.inr h)
  obtain ⟨⟨n1, n2⟩, hAl, hall⟩ := rightR_all h.1.1.1
  obtain ⟨n, rfl⟩ : ∃ m : Nat, n = m := ⟨n.toNat, by omega⟩
  obtain ⟨src, rfl⟩ : ∃ m : Nat, src = m := ⟨src.toNat, by omega⟩
  refine ⟨by omega, by omega, ⟨⟨by omega, by rw [List.length_replicate]; omega⟩, by rw [List.length_replicate]; omega⟩, ?_⟩
  have e0 : (List.replicate n ((-1 : Int), (-1 : Int))).getD src (0, 0) = (-1, -1) := by
    rw [List.getD_eq_getElem?_getD, List.getElem?_replicate, if_pos (by omega)]; rfl
  simp only [Int.toNat_natCast, e0]
  refine XW_for 1000 x23_0d [21, 24] (List DLab × List Bool) (fun _ => []) (fun s => [(21, .row 43 (.st (.cons (.int .i64) (.int .i64))) s.1), (24, .row 4 .bool s.2)])
    (fun s => s.1.length = n ∧ s.2.length = n ∧ (∀ k, -1 ≤ (s.1.getD k (0, 0)).1) ∧ runF true (moveL A) A.length (s.2.count false) s.1 s.2 = searchF true (moveL A) A.length n src start) (fun s => s.2.count false) ((List.replicate n ((-1 : Int), (-1 : Int))).set src (start, -1), List.replicate n false) ?_ ?_ ?_
  · dsimp only [x23_0d]
    simp only [nilOf, ↓xwp_top, slicey, oslx, copyx, srcx, ↓xwp_dead, ↓xwp_rfor, ↓xwp_yld, ↓rndA_n, ↓rndB_n, rndA_x, rndB_x, rndA_r, rndB_r, ↓backR_n, ↓backR_r, backR_e, ↓hasLp_mk, setLp, entY, entR, ylOf, List.zip_cons_cons, List.zip_nil_left, List.zip_nil_right, mapOf, keyOf', ↓leQ_mk, ↓xwp_icall, ↓backQ_n, ↓backQ_r, ↓backQ_e, afterI, entI, exI, oneAV, keepI, XO.reads, XA.slot, eqsx, eqd,  List.drop_zero, List.take_length, Int.toNat_zero, Int.toNat_natCast, List.set_cons_zero, List.set_cons_succ, ↓xwp_clean, tmG, cleanS, headT, numb, rensT, tmle, fastD, runR_true, runR_false, quiet, Eff.tch, ↓xwp_seq, ↓xwp_skip, ↓xwp_ret, ↓xwp_exit, ↓xwp_block, ↓xwp_loop, ↓xwp_reg, ↓xwp_cond, ↓thn_n, ↓thn_e, ↓thn_r, ↓XQ.seq, ↓XQ.blk, List.getElem?_cons_succ, List.getElem?_cons_zero, List.getElem?_nil, runT, stepT, gop, gcond, opg, pickx, boolOf, XOp.isPick, opx, stripL, strip, pur, XO.gv, XA.av, setT, appL, killL, effOk, ltAll, AV.locs, AV.locsL, OB.locs, look, enter, resAVs, binx, intBin, eqx, lenx, condOf, loadx, partOf, storex, splice, cellsOf, scatter, zeroAV, fieldx, faddrx, iaddrx, bounds, avInt, avIntK, avBool, extx, slicex, fillx, rowx, callx, callvx, fn1x, fn2x, findEnt, rdL, rdA, rdClo, rdCap, rd, rd1, rdAgg, rdPtr, rdc, rd1c, ofCst, proj, upd, appendx, srcx, freshEff, minx, Ty.isSt, Ty.size, Ty.scalar, Ty.dflt, cast?_self, List.map_cons, List.map_nil, List.getD_cons_zero, List.getD_cons_succ, List.length_cons, List.length_nil, List.cons_append, List.nil_append, List.append_nil, List.filter_cons, List.filter_nil, List.isEmpty_nil, List.isEmpty_cons, Option.map_some, Option.map_none, Option.bind_some, Option.isNone_none, Option.isNone_some, Bool.false_eq_true, if_true, if_false, ite_true, ite_false, Bool.and_true, Bool.true_and, Bool.and_false, Bool.false_and, and_true, true_and, and_self, not_true_eq_false, not_false_eq_true, imp_self, forall_const, true_imp_iff, implies_true, decide_true, decide_false, cond_true, cond_false, reduceCtorEq, List.find?_cons, List.find?_nil, beq_self_eq_true, List.drop_zero, List.take_zero, List.drop_succ_cons, List.take_succ_cons, Nat.reduceAdd, Nat.reduceSub, Nat.reduceMul, Nat.reduceLT, Nat.reduceLeDiff, Nat.reduceEqDiff, Nat.reduceBEq, Nat.reduceBNe, List.reduceReplicate, reduceIte, retQ, finish, resAll, resAV, freshIs, stepD, runD, okD, meet, reach, reachO, restr, inAll, effIn, headOf, puts, put1, keep, le', autoρ, tidy, renB, rens, ren1, asle, avles, avle, hple, oble, uniq, sub, locOk, assoc, disj, List.all_cons, List.all_nil, List.any_cons, List.any_nil, List.contains_nil, List.contains_cons, List.flatMap_cons, List.flatMap_nil, List.mem_cons, List.not_mem_nil, or_false, false_or, or_true, true_or, or_self, Bool.or_false, Bool.or_true, Bool.true_or, Bool.false_or, Bool.not_true, Bool.not_false, List.take_nil, List.drop_nil, eq_self, Option.some.injEq, false_and, and_false, ↓reduceIte]
  · refine ⟨by simp, by simp, fun k => ?_, by simp [searchF]⟩
    rw [List.getD_eq_getElem?_getD, List.getElem?_set]
    have h3 : isTime start := of_decide_eq_true h.2
    have := h3.1
    split
    · split
      · show -1 ≤ start
        omega
      · decide
    · rw [List.getElem?_replicate]
      split <;> decide
  · rintro ⟨L, S⟩ ⟨hL, hS, hge, hrun⟩
    dsimp only at hL hS hge hrun
    dsimp only [x23_0, x23_0d]
    simp only [↓hcsRl, entRRoad, entTimeR, entNone, entRLast, nilOf, ↓xwp_top, slicey, oslx, copyx, srcx, ↓xwp_dead, ↓xwp_rfor, ↓xwp_yld, ↓rndA_n, ↓rndB_n, rndA_x, rndB_x, rndA_r, rndB_r, ↓backR_n, ↓backR_r, backR_e, ↓hasLp_mk, setLp, entY, entR, ylOf, List.zip_cons_cons, List.zip_nil_left, List.zip_nil_right, mapOf, keyOf', ↓leQ_mk, ↓xwp_icall, ↓backQ_n, ↓backQ_r, ↓backQ_e, afterI, entI, exI, oneAV, keepI, XO.reads, XA.slot, eqsx, eqd,  List.drop_zero, List.take_length, Int.toNat_zero, Int.toNat_natCast, List.set_cons_zero, List.set_cons_succ, ↓xwp_clean, tmG, cleanS, headT, numb, rensT, tmle, fastD, runR_true, runR_false, quiet, Eff.tch, ↓xwp_seq, ↓xwp_skip, ↓xwp_ret, ↓xwp_exit, ↓xwp_block, ↓xwp_loop, ↓xwp_reg, ↓xwp_cond, ↓thn_n, ↓thn_e, ↓thn_r, ↓XQ.seq, ↓XQ.blk, List.getElem?_cons_succ, List.getElem?_cons_zero, List.getElem?_nil, runT, stepT, gop, gcond, opg, pickx, boolOf, XOp.isPick, opx, stripL, strip, pur, XO.gv, XA.av, setT, appL, killL, effOk, ltAll, AV.locs, AV.locsL, OB.locs, look, enter, resAVs, binx, intBin, eqx, lenx, condOf, loadx, partOf, storex, splice, cellsOf, scatter, zeroAV, fieldx, faddrx, iaddrx, bounds, avInt, avIntK, avBool, extx, slicex, fillx, rowx, callx, callvx, fn1x, fn2x, findEnt, rdL, rdA, rdClo, rdCap, rd, rd1, rdAgg, rdPtr, rdc, rd1c, ofCst, proj, upd, appendx, srcx, freshEff, minx, Ty.isSt, Ty.size, Ty.scalar, Ty.dflt, cast?_self, List.map_cons, List.map_nil, List.getD_cons_zero, List.getD_cons_succ, List.length_cons, List.length_nil, List.cons_append, List.nil_append, List.append_nil, List.filter_cons, List.filter_nil, List.isEmpty_nil, List.isEmpty_cons, Option.map_some, Option.map_none, Option.bind_some, Option.isNone_none, Option.isNone_some, Bool.false_eq_true, if_true, if_false, ite_true, ite_false, Bool.and_true, Bool.true_and, Bool.and_false, Bool.false_and, and_true, true_and, and_self, not_true_eq_false, not_false_eq_true, imp_self, forall_const, true_imp_iff, implies_true, decide_true, decide_false, cond_true, cond_false, reduceCtorEq, List.find?_cons, List.find?_nil, beq_self_eq_true, List.drop_zero, List.take_zero, List.drop_succ_cons, List.take_succ_cons, Nat.reduceAdd, Nat.reduceSub, Nat.reduceMul, Nat.reduceLT, Nat.reduceLeDiff, Nat.reduceEqDiff, Nat.reduceBEq, Nat.reduceBNe, List.reduceReplicate, reduceIte, retQ, finish, resAll, resAV, freshIs, stepD, runD, okD, meet, reach, reachO, restr, inAll, effIn, headOf, puts, put1, keep, le', autoρ, tidy, renB, rens, ren1, asle, avles, avle, hple, oble, uniq, sub, locOk, assoc, disj, List.all_cons, List.all_nil, List.any_cons, List.any_nil, List.contains_nil, List.contains_cons, List.flatMap_cons, List.flatMap_nil, List.mem_cons, List.not_mem_nil, or_false, false_or, or_true, true_or, or_self, Bool.or_false, Bool.or_true, Bool.true_or, Bool.false_or, Bool.not_true, Bool.not_false, List.take_nil, List.drop_nil, eq_self, Option.some.injEq, false_and, and_false, ↓reduceIte]
    try simp only [reduceCtorEq, if_true, if_false, decide_true, decide_false, Bool.false_eq_true, true_imp_iff, not_true_eq_false, not_false_eq_true, false_imp_iff, and_false, false_and, or_false, false_or, eqf, eqt, bif_and, bif_or, Bool.not_not, Bool.not_eq_true', Bool.not_eq_false', Bool.or_eq_true, Bool.or_eq_false_iff, Bool.and_eq_true, Bool.and_eq_false_imp, decide_eq_true_eq, decide_eq_false_iff_not, bne_iff_ne, bne_eq_false_iff_eq, beq_iff_eq, beq_eq_false_iff_ne, ne_eq, Int.toNat_natCast, Int.not_lt, Int.not_le, ge_iff_le, gt_iff_lt, Int.natCast_nonneg, Int.ofNat_lt, imp_self, and_true, true_and, implies_true, Int.ofNat_inj, and_self, Classical.not_not]
    refine XW_for 2000 x23_1d [21, 24] Nat (fun j => [(12, .val (.int .i64) (pickTo true L S j)), (13, .val (.int .i64) (j : Int))]) (fun _ => []) (fun j => j ≤ n) (fun j => n - j) 0 ?_ ?_ ?_
    · dsimp only [x23_1d]
      simp only [nilOf, ↓xwp_top, slicey, oslx, copyx, srcx, ↓xwp_dead, ↓xwp_rfor, ↓xwp_yld, ↓rndA_n, ↓rndB_n, rndA_x, rndB_x, rndA_r, rndB_r, ↓backR_n, ↓backR_r, backR_e, ↓hasLp_mk, setLp, entY, entR, ylOf, List.zip_cons_cons, List.zip_nil_left, List.zip_nil_right, mapOf, keyOf', ↓leQ_mk, ↓xwp_icall, ↓backQ_n, ↓backQ_r, ↓backQ_e, afterI, entI, exI, oneAV, keepI, XO.reads, XA.slot, eqsx, eqd,  List.drop_zero, List.take_length, Int.toNat_zero, Int.toNat_natCast, List.set_cons_zero, List.set_cons_succ, ↓xwp_clean, tmG, cleanS, headT, numb, rensT, tmle, fastD, runR_true, runR_false, quiet, Eff.tch, ↓xwp_seq, ↓xwp_skip, ↓xwp_ret, ↓xwp_exit, ↓xwp_block, ↓xwp_loop, ↓xwp_reg, ↓xwp_cond, ↓thn_n, ↓thn_e, ↓thn_r, ↓XQ.seq, ↓XQ.blk, List.getElem?_cons_succ, List.getElem?_cons_zero, List.getElem?_nil, runT, stepT, gop, gcond, opg, pickx, boolOf, XOp.isPick, opx, stripL, strip, pur, XO.gv, XA.av, setT, appL, killL, effOk, ltAll, AV.locs, AV.locsL, OB.locs, look, enter, resAVs, binx, intBin, eqx, lenx, condOf, loadx, partOf, storex, splice, cellsOf, scatter, zeroAV, fieldx, faddrx, iaddrx, bounds, avInt, avIntK, avBool, extx, slicex, fillx, rowx, callx, callvx, fn1x, fn2x, findEnt, rdL, rdA, rdClo, rdCap, rd, rd1, rdAgg, rdPtr, rdc, rd1c, ofCst, proj, upd, appendx, srcx, freshEff, minx, Ty.isSt, Ty.size, Ty.scalar, Ty.dflt, cast?_self, List.map_cons, List.map_nil, List.getD_cons_zero, List.getD_cons_succ, List.length_cons, List.length_nil, List.cons_append, List.nil_append, List.append_nil, List.filter_cons, List.filter_nil, List.isEmpty_nil, List.isEmpty_cons, Option.map_some, Option.map_none, Option.bind_some, Option.isNone_none, Option.isNone_some, Bool.false_eq_true, if_true, if_false, ite_true, ite_false, Bool.and_true, Bool.true_and, Bool.and_false, Bool.false_and, and_true, true_and, and_self, not_true_eq_false, not_false_eq_true, imp_self, forall_const, true_imp_iff, implies_true, decide_true, decide_false, cond_true, cond_false, reduceCtorEq, List.find?_cons, List.find?_nil, beq_self_eq_true, List.drop_zero, List.take_zero, List.drop_succ_cons, List.take_succ_cons, Nat.reduceAdd, Nat.reduceSub, Nat.reduceMul, Nat.reduceLT, Nat.reduceLeDiff, Nat.reduceEqDiff, Nat.reduceBEq, Nat.reduceBNe, List.reduceReplicate, reduceIte, retQ, finish, resAll, resAV, freshIs, stepD, runD, okD, meet, reach, reachO, restr, inAll, effIn, headOf, puts, put1, keep, le', autoρ, tidy, renB, rens, ren1, asle, avles, avle, hple, oble, uniq, sub, locOk, assoc, disj, List.all_cons, List.all_nil, List.any_cons, List.any_nil, List.contains_nil, List.contains_cons, List.flatMap_cons, List.flatMap_nil, List.mem_cons, List.not_mem_nil, or_false, false_or, or_true, true_or, or_self, Bool.or_false, Bool.or_true, Bool.true_or, Bool.false_or, Bool.not_true, Bool.not_false, List.take_nil, List.drop_nil, eq_self, Option.some.injEq, false_and, and_false, ↓reduceIte]
      exact ⟨rfl, rfl⟩
    · exact Nat.zero_le n
    · intro j hj
      dsimp only [x23_1, x23_1d]
      simp only [↓hcsRl, entRRoad, entTimeR, entNone, entRLast, nilOf, ↓xwp_top, slicey, oslx, copyx, srcx, ↓xwp_dead, ↓xwp_rfor, ↓xwp_yld, ↓rndA_n, ↓rndB_n, rndA_x, rndB_x, rndA_r, rndB_r, ↓backR_n, ↓backR_r, backR_e, ↓hasLp_mk, setLp, entY, entR, ylOf, List.zip_cons_cons, List.zip_nil_left, List.zip_nil_right, mapOf, keyOf', ↓leQ_mk, ↓xwp_icall, ↓backQ_n, ↓backQ_r, ↓backQ_e, afterI, entI, exI, oneAV, keepI, XO.reads, XA.slot, eqsx, eqd,  List.drop_zero, List.take_length, Int.toNat_zero, Int.toNat_natCast, List.set_cons_zero, List.set_cons_succ, ↓xwp_clean, tmG, cleanS, headT, numb, rensT, tmle, fastD, runR_true, runR_false, quiet, Eff.tch, ↓xwp_seq, ↓xwp_skip, ↓xwp_ret, ↓xwp_exit, ↓xwp_block, ↓xwp_loop, ↓xwp_reg, ↓xwp_cond, ↓thn_n, ↓thn_e, ↓thn_r, ↓XQ.seq, ↓XQ.blk, List.getElem?_cons_succ, List.getElem?_cons_zero, List.getElem?_nil, runT, stepT, gop, gcond, opg, pickx, boolOf, XOp.isPick, opx, stripL, strip, pur, XO.gv, XA.av, setT, appL, killL, effOk, ltAll, AV.locs, AV.locsL, OB.locs, look, enter, resAVs, binx, intBin, eqx, lenx, condOf, loadx, partOf, storex, splice, cellsOf, scatter, zeroAV, fieldx, faddrx, iaddrx, bounds, avInt, avIntK, avBool, extx, slicex, fillx, rowx, callx, callvx, fn1x, fn2x, findEnt, rdL, rdA, rdClo, rdCap, rd, rd1, rdAgg, rdPtr, rdc, rd1c, ofCst, proj, upd, appendx, srcx, freshEff, minx, Ty.isSt, Ty.size, Ty.scalar, Ty.dflt, cast?_self, List.map_cons, List.map_nil, List.getD_cons_zero, List.getD_cons_succ, List.length_cons, List.length_nil, List.cons_append, List.nil_append, List.append_nil, List.filter_cons, List.filter_nil, List.isEmpty_nil, List.isEmpty_cons, Option.map_some, Option.map_none, Option.bind_some, Option.isNone_none, Option.isNone_some, Bool.false_eq_true, if_true, if_false, ite_true, ite_false, Bool.and_true, Bool.true_and, Bool.and_false, Bool.false_and, and_true, true_and, and_self, not_true_eq_false, not_false_eq_true, imp_self, forall_const, true_imp_iff, implies_true, decide_true, decide_false, cond_true, cond_false, reduceCtorEq, List.find?_cons, List.find?_nil, beq_self_eq_true, List.drop_zero, List.take_zero, List.drop_succ_cons, List.take_succ_cons, Nat.reduceAdd, Nat.reduceSub, Nat.reduceMul, Nat.reduceLT, Nat.reduceLeDiff, Nat.reduceEqDiff, Nat.reduceBEq, Nat.reduceBNe, List.reduceReplicate, reduceIte, retQ, finish, resAll, resAV, freshIs, stepD, runD, okD, meet, reach, reachO, restr, inAll, effIn, headOf, puts, put1, keep, le', autoρ, tidy, renB, rens, ren1, asle, avles, avle, hple, oble, uniq, sub, locOk, assoc, disj, List.all_cons, List.all_nil, List.any_cons, List.any_nil, List.contains_nil, List.contains_cons, List.flatMap_cons, List.flatMap_nil, List.mem_cons, List.not_mem_nil, or_false, false_or, or_true, true_or, or_self, Bool.or_false, Bool.or_true, Bool.true_or, Bool.false_or, Bool.not_true, Bool.not_false, List.take_nil, List.drop_nil, eq_self, Option.some.injEq, false_and, and_false, ↓reduceIte]
      try simp only [reduceCtorEq, if_true, if_false, decide_true, decide_false, Bool.false_eq_true, true_imp_iff, not_true_eq_false, not_false_eq_true, false_imp_iff, and_false, false_and, or_false, false_or, eqf, eqt, bif_and, bif_or, Bool.not_not, Bool.not_eq_true', Bool.not_eq_false', Bool.or_eq_true, Bool.or_eq_false_iff, Bool.and_eq_true, Bool.and_eq_false_imp, decide_eq_true_eq, decide_eq_false_iff_not, bne_iff_ne, bne_eq_false_iff_eq, beq_iff_eq, beq_eq_false_iff_ne, ne_eq, Int.toNat_natCast, Int.not_lt, Int.not_le, ge_iff_le, gt_iff_lt, Int.natCast_nonneg, Int.ofNat_lt, imp_self, and_true, true_and, implies_true, Int.ofNat_inj, and_self, Classical.not_not]
      have hbd := pickTo_bd true L S j
      have hpu := pickTo_un true L S j
      have w2 : IntKind.i64.wrap ((j : Int) + 1) = ((j + 1 : Nat) : Int) := i64_in _ (by omega)
      refine ⟨fun hj' => ⟨⟨by omega, by omega, fun h => ⟨h, by omega⟩, fun h => ⟨h, by omega⟩, fun h => ⟨h, by omega⟩, fun h => ⟨h, by omega⟩, fun h => ⟨h, by rw [if_neg (by omega)]; omega⟩, fun h => ⟨h, by rw [if_neg (by omega)]; omega⟩, fun h => ⟨h, fun h' => ⟨h, h'⟩⟩⟩, fun h => ⟨j + 1, by omega, by omega, ?_, w2⟩, fun h => ⟨j + 1, by omega, by omega, ?_, w2⟩⟩, fun hj' => ?_⟩
      · have hq : pickTo true L S j < 0 ∨ betterB true (L.getD j (0, 0)).1 (L.getD (pickTo true L S j).toNat (0, 0)).1 = true := by
          by_cases hp : pickTo true L S j < 0
          · exact .inl hp
          · refine .inr ?_
            have h2 := h.2
            rw [if_neg hp] at h2
            unfold betterB
            rw [if_neg (by have := (hpu (by omega)).2; omega), if_pos rfl]
            exact decide_eq_true (by omega)
        rw [pickTo, if_pos ⟨h.1.1, h.1.2, hq⟩]
      · rw [pickTo, if_neg]
        rintro ⟨h1, h2, h3⟩
        have h4 := h ⟨h1, h2⟩
        rcases h3 with h3 | h3
        · omega
        · rw [if_neg (by omega)] at h4
          unfold betterB at h3
          rw [if_neg (by have := (hpu (by omega)).2; omega), if_pos rfl] at h3
          have := of_decide_eq_true h3
          omega
      have ej : j = L.length := by omega
      subst ej
      refine ⟨fun hp => ?_, fun hp => ⟨⟨⟨hp, by omega⟩, by omega⟩, ?_⟩⟩
      · rw [← runF_end hp, hrun]
        unfold lateF
        rw [if_neg]
        · rfl
        · rw [h.1.1.1, decide_eq_true h.1.1.2, decide_eq_true h.1.2, h.2]; simp
      obtain ⟨u, hu⟩ : ∃ u : Nat, pickTo true L S L.length = u := ⟨(pickTo true L S L.length).toNat, by omega⟩
      have hgo := runF_go (E := moveL A) (m := A.length) (by omega) hu
      have hun := (pickTo_un true L S L.length hp).1
      rw [hu] at hun
      replace hun : S.getD u false = false := hun
      rw [hu] at hbd hp ⊢
      clear hu hp hpu
      rw [show (u : Int).toNat = u from rfl]
      refine XW_for 3000 x23_2d [21, 24] Nat (fun j => [(14, .val (.int .i64) (j : Int))]) (fun j => [(21, .row 43 (.st (.cons (.int .i64) (.int .i64))) (relaxTo true (moveL A) (S.set u true) u j L))]) (fun j => j ≤ A.length) (fun j => A.length - j) 0 ?_ ?_ ?_
      · dsimp only [x23_2d]
        simp only [nilOf, ↓xwp_top, slicey, oslx, copyx, srcx, ↓xwp_dead, ↓xwp_rfor, ↓xwp_yld, ↓rndA_n, ↓rndB_n, rndA_x, rndB_x, rndA_r, rndB_r, ↓backR_n, ↓backR_r, backR_e, ↓hasLp_mk, setLp, entY, entR, ylOf, List.zip_cons_cons, List.zip_nil_left, List.zip_nil_right, mapOf, keyOf', ↓leQ_mk, ↓xwp_icall, ↓backQ_n, ↓backQ_r, ↓backQ_e, afterI, entI, exI, oneAV, keepI, XO.reads, XA.slot, eqsx, eqd,  List.drop_zero, List.take_length, Int.toNat_zero, Int.toNat_natCast, List.set_cons_zero, List.set_cons_succ, ↓xwp_clean, tmG, cleanS, headT, numb, rensT, tmle, fastD, runR_true, runR_false, quiet, Eff.tch, ↓xwp_seq, ↓xwp_skip, ↓xwp_ret, ↓xwp_exit, ↓xwp_block, ↓xwp_loop, ↓xwp_reg, ↓xwp_cond, ↓thn_n, ↓thn_e, ↓thn_r, ↓XQ.seq, ↓XQ.blk, List.getElem?_cons_succ, List.getElem?_cons_zero, List.getElem?_nil, runT, stepT, gop, gcond, opg, pickx, boolOf, XOp.isPick, opx, stripL, strip, pur, XO.gv, XA.av, setT, appL, killL, effOk, ltAll, AV.locs, AV.locsL, OB.locs, look, enter, resAVs, binx, intBin, eqx, lenx, condOf, loadx, partOf, storex, splice, cellsOf, scatter, zeroAV, fieldx, faddrx, iaddrx, bounds, avInt, avIntK, avBool, extx, slicex, fillx, rowx, callx, callvx, fn1x, fn2x, findEnt, rdL, rdA, rdClo, rdCap, rd, rd1, rdAgg, rdPtr, rdc, rd1c, ofCst, proj, upd, appendx, srcx, freshEff, minx, Ty.isSt, Ty.size, Ty.scalar, Ty.dflt, cast?_self, List.map_cons, List.map_nil, List.getD_cons_zero, List.getD_cons_succ, List.length_cons, List.length_nil, List.cons_append, List.nil_append, List.append_nil, List.filter_cons, List.filter_nil, List.isEmpty_nil, List.isEmpty_cons, Option.map_some, Option.map_none, Option.bind_some, Option.isNone_none, Option.isNone_some, Bool.false_eq_true, if_true, if_false, ite_true, ite_false, Bool.and_true, Bool.true_and, Bool.and_false, Bool.false_and, and_true, true_and, and_self, not_true_eq_false, not_false_eq_true, imp_self, forall_const, true_imp_iff, implies_true, decide_true, decide_false, cond_true, cond_false, reduceCtorEq, List.find?_cons, List.find?_nil, beq_self_eq_true, List.drop_zero, List.take_zero, List.drop_succ_cons, List.take_succ_cons, Nat.reduceAdd, Nat.reduceSub, Nat.reduceMul, Nat.reduceLT, Nat.reduceLeDiff, Nat.reduceEqDiff, Nat.reduceBEq, Nat.reduceBNe, List.reduceReplicate, reduceIte, retQ, finish, resAll, resAV, freshIs, stepD, runD, okD, meet, reach, reachO, restr, inAll, effIn, headOf, puts, put1, keep, le', autoρ, tidy, renB, rens, ren1, asle, avles, avle, hple, oble, uniq, sub, locOk, assoc, disj, List.all_cons, List.all_nil, List.any_cons, List.any_nil, List.contains_nil, List.contains_cons, List.flatMap_cons, List.flatMap_nil, List.mem_cons, List.not_mem_nil, or_false, false_or, or_true, true_or, or_self, Bool.or_false, Bool.or_true, Bool.true_or, Bool.false_or, Bool.not_true, Bool.not_false, List.take_nil, List.drop_nil, eq_self, Option.some.injEq, false_and, and_false, ↓reduceIte]
        exact ⟨rfl, rfl⟩
      · exact Nat.zero_le _
      · intro j hj
        dsimp only [x23_2, x23_2d]
        have hl := relaxTo_length (late := true) (E := moveL A) (S := S.set u true) (u := u) (L := L) j
        simp only [↓hcsRl, entRRoad, entTimeR, entNone, entRLast, nilOf, ↓xwp_top, slicey, oslx, copyx, srcx, ↓xwp_dead, ↓xwp_rfor, ↓xwp_yld, ↓rndA_n, ↓rndB_n, rndA_x, rndB_x, rndA_r, rndB_r, ↓backR_n, ↓backR_r, backR_e, ↓hasLp_mk, setLp, entY, entR, ylOf, List.zip_cons_cons, List.zip_nil_left, List.zip_nil_right, mapOf, keyOf', ↓leQ_mk, ↓xwp_icall, ↓backQ_n, ↓backQ_r, ↓backQ_e, afterI, entI, exI, oneAV, keepI, XO.reads, XA.slot, eqsx, eqd,  List.drop_zero, List.take_length, Int.toNat_zero, Int.toNat_natCast, List.set_cons_zero, List.set_cons_succ, ↓xwp_clean, tmG, cleanS, headT, numb, rensT, tmle, fastD, runR_true, runR_false, quiet, Eff.tch, ↓xwp_seq, ↓xwp_skip, ↓xwp_ret, ↓xwp_exit, ↓xwp_block, ↓xwp_loop, ↓xwp_reg, ↓xwp_cond, ↓thn_n, ↓thn_e, ↓thn_r, ↓XQ.seq, ↓XQ.blk, List.getElem?_cons_succ, List.getElem?_cons_zero, List.getElem?_nil, runT, stepT, gop, gcond, opg, pickx, boolOf, XOp.isPick, opx, stripL, strip, pur, XO.gv, XA.av, setT, appL, killL, effOk, ltAll, AV.locs, AV.locsL, OB.locs, look, enter, resAVs, binx, intBin, eqx, lenx, condOf, loadx, partOf, storex, splice, cellsOf, scatter, zeroAV, fieldx, faddrx, iaddrx, bounds, avInt, avIntK, avBool, extx, slicex, fillx, rowx, callx, callvx, fn1x, fn2x, findEnt, rdL, rdA, rdClo, rdCap, rd, rd1, rdAgg, rdPtr, rdc, rd1c, ofCst, proj, upd, appendx, srcx, freshEff, minx, Ty.isSt, Ty.size, Ty.scalar, Ty.dflt, cast?_self, List.map_cons, List.map_nil, List.getD_cons_zero, List.getD_cons_succ, List.length_cons, List.length_nil, List.cons_append, List.nil_append, List.append_nil, List.filter_cons, List.filter_nil, List.isEmpty_nil, List.isEmpty_cons, Option.map_some, Option.map_none, Option.bind_some, Option.isNone_none, Option.isNone_some, Bool.false_eq_true, if_true, if_false, ite_true, ite_false, Bool.and_true, Bool.true_and, Bool.and_false, Bool.false_and, and_true, true_and, and_self, not_true_eq_false, not_false_eq_true, imp_self, forall_const, true_imp_iff, implies_true, decide_true, decide_false, cond_true, cond_false, reduceCtorEq, List.find?_cons, List.find?_nil, beq_self_eq_true, List.drop_zero, List.take_zero, List.drop_succ_cons, List.take_succ_cons, Nat.reduceAdd, Nat.reduceSub, Nat.reduceMul, Nat.reduceLT, Nat.reduceLeDiff, Nat.reduceEqDiff, Nat.reduceBEq, Nat.reduceBNe, List.reduceReplicate, reduceIte, retQ, finish, resAll, resAV, freshIs, stepD, runD, okD, meet, reach, reachO, restr, inAll, effIn, headOf, puts, put1, keep, le', autoρ, tidy, renB, rens, ren1, asle, avles, avle, hple, oble, uniq, sub, locOk, assoc, disj, List.all_cons, List.all_nil, List.any_cons, List.any_nil, List.contains_nil, List.contains_cons, List.flatMap_cons, List.flatMap_nil, List.mem_cons, List.not_mem_nil, or_false, false_or, or_true, true_or, or_self, Bool.or_false, Bool.or_true, Bool.true_or, Bool.false_or, Bool.not_true, Bool.not_false, List.take_nil, List.drop_nil, eq_self, Option.some.injEq, false_and, and_false, ↓reduceIte]
        try simp only [reduceCtorEq, if_true, if_false, decide_true, decide_false, Bool.false_eq_true, true_imp_iff, not_true_eq_false, not_false_eq_true, false_imp_iff, and_false, false_and, or_false, false_or, eqf, eqt, bif_and, bif_or, Bool.not_not, Bool.not_eq_true', Bool.not_eq_false', Bool.or_eq_true, Bool.or_eq_false_iff, Bool.and_eq_true, Bool.and_eq_false_imp, decide_eq_true_eq, decide_eq_false_iff_not, bne_iff_ne, bne_eq_false_iff_eq, beq_iff_eq, beq_eq_false_iff_ne, ne_eq, Int.toNat_natCast, Int.not_lt, Int.not_le, ge_iff_le, gt_iff_lt, Int.natCast_nonneg, Int.ofNat_lt, imp_self, and_true, true_and, implies_true, Int.ofNat_inj, and_self, Classical.not_not]
        have w2 : IntKind.i64.wrap ((j : Int) + 1) = ((j + 1 : Nat) : Int) := i64_in _ (by omega)
        have hk : j < A.length → _ := fun h => hall (A.getD j (0, 0, [], [])) (by rw [List.getD_eq_getElem?_getD, List.getElem?_eq_getElem h]; exact List.getElem_mem _)
        have e1 : ((moveL A j).1 = u → relaxTo true (moveL A) (S.set u true) u (j + 1) L = reachF true (S.set u true) (relaxTo true (moveL A) (S.set u true) u j L) (moveL A j).2.1.toNat ((moveL A j).2.2 ((relaxTo true (moveL A) (S.set u true) u j L).getD u (0, 0)).1) j) ∧ (¬ (moveL A j).1 = u → relaxTo true (moveL A) (S.set u true) u (j + 1) L = relaxTo true (moveL A) (S.set u true) u j L) := ⟨fun h => if_pos h, fun h => if_neg h⟩
        dsimp only [moveL] at e1
        have hs : (S.set u true).length = n := by rw [List.length_set]; exact hS
        refine ⟨fun hjl => ?_, fun hjl => ?_⟩
        · replace hk := hk hjl
          have hg2 := fun k => relaxTo_ge (late := true) (E := moveL A) (S := S.set u true) (u := u) hge j k
          generalize relaxTo true (moveL A) (S.set u true) u j L = R at hl e1 hg2 ⊢
          have ht := last_rng (toArc (A.getD j (0, 0, [], []))) (R.getD u (0, 0)).1
          generalize (toArc (A.getD j (0, 0, [], []))).lastF true (R.getD u (0, 0)).1 = t at e1 ht ⊢
          generalize (A.getD j (0, 0, [], [])).1 = v at e1 hk ⊢
          have hR : R.length = n := by omega
          have hv : v.toNat < n := by omega
          generalize S.set u true = S2 at *
          refine ⟨hjl, ⟨hjl, fun h => ⟨h, by omega⟩, fun h => ⟨h, by omega⟩⟩, fun h1 => ⟨j + 1, by omega, by omega, w2, ?_⟩, fun hc => ⟨⟨hjl, by omega⟩, ?_, fun h1 => ⟨by omega, j + 1, by omega, by omega, w2, ?_⟩, fun h1 => ⟨j + 1, by omega, by omega, w2, ?_⟩⟩⟩
          · by_cases hk1 : (A.getD j (0, 0, [], [])).2.1 = (u : Int)
            · rw [e1.1 hk1, reachF, if_pos (.inl (h1.resolve_left (fun h2 => h2 hk1)))]
            · rw [e1.2 hk1]
          · repeat' apply And.intro
            all_goals first | omega | exact fun h => ⟨h, by omega⟩ | exact fun h => ⟨h, fun h' => ⟨h, h'⟩⟩
          · have hg3 := hg2 v.toNat
            have tb : timeB t = true := decide_eq_true ⟨by omega, by omega⟩
            rw [e1.1 hc.1, reachF, if_neg (by rw [hc.2, tb]; simp), if_pos]
            rcases h1 with h2 | h2
            · left; unfold betterB; split
              · rfl
              · exact decide_eq_true h2
            · exact .inr ⟨h2.1.2, h2.2⟩
          · rw [e1.1 hc.1, reachF]
            split
            · rfl
            · rename_i h2
              rw [not_or] at h2
              have h3 : timeB t = true := by simpa using h2.2
              have h5 : isTime t := of_decide_eq_true h3
              have h6 := h5.1
              rw [if_neg]
              rintro (h4 | h4)
              · unfold betterB at h4
                rw [if_neg (by omega), if_pos rfl] at h4
                have := of_decide_eq_true h4
                omega
              · have := h1.2 ⟨h6, h4.1⟩; omega
        · have ej : j = A.length := by omega
          subst ej
          refine ⟨(relaxTo true (moveL A) (S.set u true) u A.length L, S.set u true), ?_, ⟨by rw [relaxTo_length]; exact hL, hs, fun k => relaxTo_ge hge _ k, by rw [← hrun, hgo]⟩, rfl, rfl⟩
          have := count_settle (S := S) (u := u) (by omega) hun
          dsimp only
          omega
end T
end Go.Proofs.Ytcjgofcfinbpeaa
