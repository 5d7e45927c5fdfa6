/- The reference's Tighten, by the typed walk. -/
import Derived.Test.YtaffcpdkmhpckaaG3
import Derived.Test.YtaffcpdkmhpckaaT21
namespace Go.Proofs.Ytaffcpdkmhpckaa
set_option linter.unusedVariables false
set_option linter.unusedSimpArgs false
open Go.RowKit Go.IntWalk
namespace T
theorem tightF_eq (x : DArc × List (Int × Int) × Unit) : entTighten.F x = tightF (toArc x.1) (x.2.1.map toObs) := rfl
theorem minL_snoc (s : List Int) (x : Int) : minL (s ++ [x]) = if s.length = 0 then x else if x < minL s then x else minL s := by
  cases s with
  | nil => rfl
  | cons y r =>
    rw [if_neg (by simp)]
    show List.foldl _ y (r ++ [x]) = _
    rw [List.foldl_append]
    rfl
theorem maxL_snoc (s : List Int) (x : Int) : maxL (s ++ [x]) = if s.length = 0 then x else if maxL s < x then x else maxL s := by
  cases s with
  | nil => rfl
  | cons y r =>
    rw [if_neg (by simp)]
    show List.foldl _ y (r ++ [x]) = _
    rw [List.foldl_append]
    rfl
theorem seenAt_snoc (a : Arc) (xs : List Obs) (o : Obs) (h : Nat) : seenAt a (xs ++ [o]) h = seenAt a xs h ++ if hour o.s = h ∧ insideB a o = true then [o.t] else [] := by
  unfold seenAt
  rw [List.filter_append, List.map_append]
  congr 1
  by_cases c : hour o.s = h ∧ insideB a o = true
  · rw [if_pos c]
    simp [c.1, c.2]
  · rw [if_neg c]
    have : (insideB a o && hour o.s == h) = false := by
      rw [Bool.eq_false_iff]
      intro q
      simp only [Bool.and_eq_true, beq_iff_eq] at q
      exact c ⟨q.2, q.1⟩
    simp [this]
theorem seen_take {a : Arc} {l : List (Int × Int)} {k : Nat} (hk : k < l.length) (h : Nat) : seenAt a ((l.map toObs).take (k + 1)) h = seenAt a ((l.map toObs).take k) h ++ if hour (l.getD k (0, 0)).1 = h ∧ insideB a (toObs (l.getD k (0, 0))) = true then [(l.getD k (0, 0)).2] else [] := by
  rw [take_snoc (by simpa using hk), getD_map hk, seenAt_snoc]
theorem strays_take {a : Arc} {l : List (Int × Int)} {k : Nat} (hk : k < l.length) : straysOf a ((l.map toObs).take (k + 1)) = straysOf a ((l.map toObs).take k) ++ if insideB a (toObs (l.getD k (0, 0))) then [] else [(k : Int)] := by
  rw [take_snoc (by simpa using hk), getD_map hk]
  unfold straysOf
  rw [straysFrom_snoc]
  have : (List.take k (l.map toObs)).length = k := by rw [List.length_take, List.length_map]; omega
  rw [this]
  simp
theorem seen_le (a : Arc) (l : List Obs) (k : Nat) {h : Nat} (hh : h < 24) : (seenAt a (l.take k) h).length ≤ k := by
  have := rowsAt_len a l k h
  unfold rowsAt at this
  rwa [if_pos hh] at this
def entTighten14 : Ent := ⟨11, .cons (.st (.cons (.int .i64) (.cons (.int .i64) (.cons (.sl (.int .i64)) (.sl (.int .i64)))))) (.cons (.sl (.st (.cons (.int .i64) (.int .i64)))) .nil), .cons (.st (.cons (.int .i64) (.cons (.int .i64) (.cons (.sl (.int .i64)) (.sl (.int .i64)))))) (.cons (.sl (.int .i64)) (.cons (.int .i64) .nil)), true, none, fun _ => True, fun x => tightF (toArc x.1) (x.2.1.map toObs)⟩
theorem conTighten14 : Con Try.prog entTighten14 := by
  refine con_is (C := [entRefRight10, entRight14, entHour, entInside]) x11 (by kernel_rfl) (by simp [conRefRight10, conRight14, conHour, conInside]) fun x _ hf => ?_
  obtain ⟨⟨f, t, L, H⟩, l, _⟩ := x
  dsimp only [entRefRight10, entRight14, entHour, entInside, entTighten14, x11]; simp only [↓xwp_seq, ↓xwp_skip, ↓xwp_ret, ↓xwp_exit, ↓xwp_block, ↓xwp_loop, ↓xwp_reg, ↓xwp_cond, ↓thn_n, ↓thn_e, ↓thn_r, ↓XQ.seq, ↓XQ.blk, List.getElem?_cons_succ, List.getElem?_cons_zero, List.getElem?_nil, runR, runT, stepT, gop, gcond, opg, pickx, boolOf, XOp.isPick, opx, stripL, strip, pur, XO.gv, XA.av, setT, appL, killL, effOk, ltAll, AV.locs, AV.locsL, OB.locs, look, enter, resAVs, binx, intBin, eqx, lenx, condOf, loadx, partOf, storex, splice, cellsOf, scatter, zeroAV, fieldx, faddrx, iaddrx, bounds, avInt, avIntK, avBool, extx, slicex, fillx, rowx, callx, callvx, fn1x, fn2x, findEnt, rdL, rdA, rdClo, rdCap, rd, rd1, rdAgg, rdPtr, rdc, rd1c, ofCst, proj, upd, appendx, srcx, freshEff, minx, Ty.isSt, Ty.size, Ty.scalar, Ty.dflt, cast?_self, List.map_cons, List.map_nil, List.getD_cons_zero, List.getD_cons_succ, List.set_cons_zero, List.set_cons_succ, List.length_cons, List.length_nil, List.cons_append, List.nil_append, List.append_nil, List.filter_cons, List.filter_nil, List.isEmpty_nil, List.isEmpty_cons, Option.map_some, Option.map_none, Option.bind_some, Option.isNone_none, Option.isNone_some, Bool.false_eq_true, if_true, if_false, ite_true, ite_false, Bool.and_true, Bool.true_and, Bool.and_false, Bool.false_and, and_true, true_and, and_self, not_true_eq_false, not_false_eq_true, imp_self, forall_const, true_imp_iff, implies_true, decide_true, decide_false, cond_true, cond_false, reduceCtorEq, List.find?_cons, List.find?_nil, beq_self_eq_true, List.drop_zero, List.take_zero, List.drop_succ_cons, List.take_succ_cons, Nat.reduceAdd, Nat.reduceSub, Nat.reduceMul, Nat.reduceLT, Nat.reduceLeDiff, Nat.reduceEqDiff, Nat.reduceBEq, Nat.reduceBNe, List.reduceReplicate, reduceIte, retQ, finish, resAll, resAV, freshIs, stepD, runD, okD, meet, Eff.tch, reach, restr, inAll, effIn, headOf, sets, tops, puts, put1, keep, le', autoρ, leA, leH, ρH, List.take_succ_cons, List.take_zero, tidy, renB, rens, ren1, asle, avles, avle, hple, oble, uniq, sub, locOk, assoc, disj, List.all_cons, List.all_nil, List.any_cons, List.any_nil, List.contains_nil, List.contains_cons, List.flatMap_cons, List.flatMap_nil, List.mem_cons, List.not_mem_nil, or_false, false_or, or_true, true_or, or_self, Bool.or_false, Bool.or_true, Bool.true_or, Bool.false_or, Bool.not_true, Bool.not_false, List.take_nil, List.take_succ_cons, List.drop_nil, decide_true, eq_self, Option.some.injEq, false_and, and_false, Nat.reduceLT, ↓reduceIte]
  simp only [eqf, eqt, bif_and, bif_or, Bool.not_not, Bool.not_eq_true', Bool.not_eq_false', Bool.or_eq_true, Bool.or_eq_false_iff, Bool.and_eq_true, Bool.and_eq_false_imp, decide_eq_true_eq, decide_eq_false_iff_not, bne_iff_ne, bne_eq_false_iff_eq, beq_iff_eq, beq_eq_false_iff_ne, ne_eq, Int.toNat_natCast, Int.not_lt, Int.not_le, ge_iff_le, gt_iff_lt, Int.natCast_nonneg, Int.ofNat_lt, imp_self, and_true, true_and, implies_true, Int.ofNat_inj, and_self, Classical.not_not]
  refine ⟨fun h => ?_, fun h => ?_⟩
  · unfold tightF
    rw [if_neg]
    rcases h with h | h <;> simp [h]
  · obtain ⟨h1, h2⟩ := h
    have hr : (toArc (f, t, L, H)).right := of_decide_eq_true h1
    have hok : (l.map toObs).all Obs.okB = true := by unfold obsRightB at h2; simp only [Bool.and_eq_true] at h2; exact h2.2
    have hlen : (l.map toObs).length ≤ 10000 := by unfold obsRightB at h2; simp only [Bool.and_eq_true, decide_eq_true_eq] at h2; exact h2.1
    have eL : L.length = 24 := hr.2.2.1
    have eH : H.length = 24 := hr.2.2.2.1
    have ell : l.length ≤ 10000 := by simpa using hlen
    refine ⟨by dsimp only [Ty.den] at *; omega, ?_⟩
    refine XW_for2 15 x11_0d [0, 1, 2, 19, 23, 25] Nat (fun h => [(8, .val (.int .i64) (h : Int))]) (fun h => [(19, .row 3 (.int .i64) (upTo (lowAt (toArc (f, t, L, H)) (l.map toObs)) L h)), (23, .row 3 (.int .i64) (upTo (highAt (toArc (f, t, L, H)) (l.map toObs)) H h))]) (fun h => h ≤ 24) (fun h => 24 - h) 0 ?_ ?_ ?_
    · simp only [x11_0d, ↓xwp_seq, ↓xwp_skip, ↓xwp_ret, ↓xwp_exit, ↓xwp_block, ↓xwp_loop, ↓xwp_reg, ↓xwp_cond, ↓thn_n, ↓thn_e, ↓thn_r, ↓XQ.seq, ↓XQ.blk, List.getElem?_cons_succ, List.getElem?_cons_zero, List.getElem?_nil, runR, runT, stepT, gop, gcond, opg, pickx, boolOf, XOp.isPick, opx, stripL, strip, pur, XO.gv, XA.av, setT, appL, killL, effOk, ltAll, AV.locs, AV.locsL, OB.locs, look, enter, resAVs, binx, intBin, eqx, lenx, condOf, loadx, partOf, storex, splice, cellsOf, scatter, zeroAV, fieldx, faddrx, iaddrx, bounds, avInt, avIntK, avBool, extx, slicex, fillx, rowx, callx, callvx, fn1x, fn2x, findEnt, rdL, rdA, rdClo, rdCap, rd, rd1, rdAgg, rdPtr, rdc, rd1c, ofCst, proj, upd, appendx, srcx, freshEff, minx, Ty.isSt, Ty.size, Ty.scalar, Ty.dflt, cast?_self, List.map_cons, List.map_nil, List.getD_cons_zero, List.getD_cons_succ, List.set_cons_zero, List.set_cons_succ, List.length_cons, List.length_nil, List.cons_append, List.nil_append, List.append_nil, List.filter_cons, List.filter_nil, List.isEmpty_nil, List.isEmpty_cons, Option.map_some, Option.map_none, Option.bind_some, Option.isNone_none, Option.isNone_some, Bool.false_eq_true, if_true, if_false, ite_true, ite_false, Bool.and_true, Bool.true_and, Bool.and_false, Bool.false_and, and_true, true_and, and_self, not_true_eq_false, not_false_eq_true, imp_self, forall_const, true_imp_iff, implies_true, decide_true, decide_false, cond_true, cond_false, reduceCtorEq, List.find?_cons, List.find?_nil, beq_self_eq_true, List.drop_zero, List.take_zero, List.drop_succ_cons, List.take_succ_cons, Nat.reduceAdd, Nat.reduceSub, Nat.reduceMul, Nat.reduceLT, Nat.reduceLeDiff, Nat.reduceEqDiff, Nat.reduceBEq, Nat.reduceBNe, List.reduceReplicate, reduceIte, retQ, finish, resAll, resAV, freshIs, stepD, runD, okD, meet, Eff.tch, reach, restr, inAll, effIn, headOf, sets, tops, puts, put1, keep, le', autoρ, leA, leH, ρH, List.take_succ_cons, List.take_zero, tidy, renB, rens, ren1, asle, avles, avle, hple, oble, uniq, sub, locOk, assoc, disj, List.all_cons, List.all_nil, List.any_cons, List.any_nil, List.contains_nil, List.contains_cons, List.flatMap_cons, List.flatMap_nil, List.mem_cons, List.not_mem_nil, or_false, false_or, or_true, true_or, or_self, Bool.or_false, Bool.or_true, Bool.true_or, Bool.false_or, Bool.not_true, Bool.not_false, List.take_nil, List.take_succ_cons, List.drop_nil, decide_true, eq_self, Option.some.injEq, false_and, and_false, Nat.reduceLT, ↓reduceIte]
      exact ⟨rfl, (upTo_zero _ eH).symm, (upTo_zero _ eL).symm⟩
    · exact Nat.zero_le _
    · intro h hh
      dsimp only [x11_0, x11_0d]; simp only [↓xwp_seq, ↓xwp_skip, ↓xwp_ret, ↓xwp_exit, ↓xwp_block, ↓xwp_loop, ↓xwp_reg, ↓xwp_cond, ↓thn_n, ↓thn_e, ↓thn_r, ↓XQ.seq, ↓XQ.blk, List.getElem?_cons_succ, List.getElem?_cons_zero, List.getElem?_nil, runR, runT, stepT, gop, gcond, opg, pickx, boolOf, XOp.isPick, opx, stripL, strip, pur, XO.gv, XA.av, setT, appL, killL, effOk, ltAll, AV.locs, AV.locsL, OB.locs, look, enter, resAVs, binx, intBin, eqx, lenx, condOf, loadx, partOf, storex, splice, cellsOf, scatter, zeroAV, fieldx, faddrx, iaddrx, bounds, avInt, avIntK, avBool, extx, slicex, fillx, rowx, callx, callvx, fn1x, fn2x, findEnt, rdL, rdA, rdClo, rdCap, rd, rd1, rdAgg, rdPtr, rdc, rd1c, ofCst, proj, upd, appendx, srcx, freshEff, minx, Ty.isSt, Ty.size, Ty.scalar, Ty.dflt, cast?_self, List.map_cons, List.map_nil, List.getD_cons_zero, List.getD_cons_succ, List.set_cons_zero, List.set_cons_succ, List.length_cons, List.length_nil, List.cons_append, List.nil_append, List.append_nil, List.filter_cons, List.filter_nil, List.isEmpty_nil, List.isEmpty_cons, Option.map_some, Option.map_none, Option.bind_some, Option.isNone_none, Option.isNone_some, Bool.false_eq_true, if_true, if_false, ite_true, ite_false, Bool.and_true, Bool.true_and, Bool.and_false, Bool.false_and, and_true, true_and, and_self, not_true_eq_false, not_false_eq_true, imp_self, forall_const, true_imp_iff, implies_true, decide_true, decide_false, cond_true, cond_false, reduceCtorEq, List.find?_cons, List.find?_nil, beq_self_eq_true, List.drop_zero, List.take_zero, List.drop_succ_cons, List.take_succ_cons, Nat.reduceAdd, Nat.reduceSub, Nat.reduceMul, Nat.reduceLT, Nat.reduceLeDiff, Nat.reduceEqDiff, Nat.reduceBEq, Nat.reduceBNe, List.reduceReplicate, reduceIte, retQ, finish, resAll, resAV, freshIs, stepD, runD, okD, meet, Eff.tch, reach, restr, inAll, effIn, headOf, sets, tops, puts, put1, keep, le', autoρ, leA, leH, ρH, List.take_succ_cons, List.take_zero, tidy, renB, rens, ren1, asle, avles, avle, hple, oble, uniq, sub, locOk, assoc, disj, List.all_cons, List.all_nil, List.any_cons, List.any_nil, List.contains_nil, List.contains_cons, List.flatMap_cons, List.flatMap_nil, List.mem_cons, List.not_mem_nil, or_false, false_or, or_true, true_or, or_self, Bool.or_false, Bool.or_true, Bool.true_or, Bool.false_or, Bool.not_true, Bool.not_false, List.take_nil, List.take_succ_cons, List.drop_nil, decide_true, eq_self, Option.some.injEq, false_and, and_false, Nat.reduceLT, ↓reduceIte]
      simp only [eqf, eqt, bif_and, bif_or, Bool.not_not, Bool.not_eq_true', Bool.not_eq_false', Bool.or_eq_true, Bool.or_eq_false_iff, Bool.and_eq_true, Bool.and_eq_false_imp, decide_eq_true_eq, decide_eq_false_iff_not, bne_iff_ne, bne_eq_false_iff_eq, beq_iff_eq, beq_eq_false_iff_ne, ne_eq, Int.toNat_natCast, Int.not_lt, Int.not_le, ge_iff_le, gt_iff_lt, Int.natCast_nonneg, Int.ofNat_lt, imp_self, and_true, true_and, implies_true, Int.ofNat_inj, and_self, Classical.not_not]
      refine ⟨fun h24 => ?_, fun h24 => ?_⟩
      · have h24' : h < 24 := by omega
        refine XW_for2 15 x11_1d [0, 1, 2, 19, 23, 25] Nat (fun k => [(9, .val (.int .i64) ((seenAt (toArc (f, t, L, H)) ((l.map toObs).take k) h).length : Int)), (10, .val (.int .i64) (minL (seenAt (toArc (f, t, L, H)) ((l.map toObs).take k) h))), (11, .val (.int .i64) (maxL (seenAt (toArc (f, t, L, H)) ((l.map toObs).take k) h))), (12, .val (.int .i64) (k : Int))]) (fun k => []) (fun k => k ≤ l.length) (fun k => l.length - k) 0 ?_ ?_ ?_
        · simp only [x11_1d, ↓xwp_seq, ↓xwp_skip, ↓xwp_ret, ↓xwp_exit, ↓xwp_block, ↓xwp_loop, ↓xwp_reg, ↓xwp_cond, ↓thn_n, ↓thn_e, ↓thn_r, ↓XQ.seq, ↓XQ.blk, List.getElem?_cons_succ, List.getElem?_cons_zero, List.getElem?_nil, runR, runT, stepT, gop, gcond, opg, pickx, boolOf, XOp.isPick, opx, stripL, strip, pur, XO.gv, XA.av, setT, appL, killL, effOk, ltAll, AV.locs, AV.locsL, OB.locs, look, enter, resAVs, binx, intBin, eqx, lenx, condOf, loadx, partOf, storex, splice, cellsOf, scatter, zeroAV, fieldx, faddrx, iaddrx, bounds, avInt, avIntK, avBool, extx, slicex, fillx, rowx, callx, callvx, fn1x, fn2x, findEnt, rdL, rdA, rdClo, rdCap, rd, rd1, rdAgg, rdPtr, rdc, rd1c, ofCst, proj, upd, appendx, srcx, freshEff, minx, Ty.isSt, Ty.size, Ty.scalar, Ty.dflt, cast?_self, List.map_cons, List.map_nil, List.getD_cons_zero, List.getD_cons_succ, List.set_cons_zero, List.set_cons_succ, List.length_cons, List.length_nil, List.cons_append, List.nil_append, List.append_nil, List.filter_cons, List.filter_nil, List.isEmpty_nil, List.isEmpty_cons, Option.map_some, Option.map_none, Option.bind_some, Option.isNone_none, Option.isNone_some, Bool.false_eq_true, if_true, if_false, ite_true, ite_false, Bool.and_true, Bool.true_and, Bool.and_false, Bool.false_and, and_true, true_and, and_self, not_true_eq_false, not_false_eq_true, imp_self, forall_const, true_imp_iff, implies_true, decide_true, decide_false, cond_true, cond_false, reduceCtorEq, List.find?_cons, List.find?_nil, beq_self_eq_true, List.drop_zero, List.take_zero, List.drop_succ_cons, List.take_succ_cons, Nat.reduceAdd, Nat.reduceSub, Nat.reduceMul, Nat.reduceLT, Nat.reduceLeDiff, Nat.reduceEqDiff, Nat.reduceBEq, Nat.reduceBNe, List.reduceReplicate, reduceIte, retQ, finish, resAll, resAV, freshIs, stepD, runD, okD, meet, Eff.tch, reach, restr, inAll, effIn, headOf, sets, tops, puts, put1, keep, le', autoρ, leA, leH, ρH, List.take_succ_cons, List.take_zero, tidy, renB, rens, ren1, asle, avles, avle, hple, oble, uniq, sub, locOk, assoc, disj, List.all_cons, List.all_nil, List.any_cons, List.any_nil, List.contains_nil, List.contains_cons, List.flatMap_cons, List.flatMap_nil, List.mem_cons, List.not_mem_nil, or_false, false_or, or_true, true_or, or_self, Bool.or_false, Bool.or_true, Bool.true_or, Bool.false_or, Bool.not_true, Bool.not_false, List.take_nil, List.take_succ_cons, List.drop_nil, decide_true, eq_self, Option.some.injEq, false_and, and_false, Nat.reduceLT, ↓reduceIte]
          exact ⟨rfl, rfl, rfl, rfl⟩
        · exact Nat.zero_le _
        · intro k hk
          dsimp only [x11_1, x11_1d]; simp only [↓xwp_seq, ↓xwp_skip, ↓xwp_ret, ↓xwp_exit, ↓xwp_block, ↓xwp_loop, ↓xwp_reg, ↓xwp_cond, ↓thn_n, ↓thn_e, ↓thn_r, ↓XQ.seq, ↓XQ.blk, List.getElem?_cons_succ, List.getElem?_cons_zero, List.getElem?_nil, runR, runT, stepT, gop, gcond, opg, pickx, boolOf, XOp.isPick, opx, stripL, strip, pur, XO.gv, XA.av, setT, appL, killL, effOk, ltAll, AV.locs, AV.locsL, OB.locs, look, enter, resAVs, binx, intBin, eqx, lenx, condOf, loadx, partOf, storex, splice, cellsOf, scatter, zeroAV, fieldx, faddrx, iaddrx, bounds, avInt, avIntK, avBool, extx, slicex, fillx, rowx, callx, callvx, fn1x, fn2x, findEnt, rdL, rdA, rdClo, rdCap, rd, rd1, rdAgg, rdPtr, rdc, rd1c, ofCst, proj, upd, appendx, srcx, freshEff, minx, Ty.isSt, Ty.size, Ty.scalar, Ty.dflt, cast?_self, List.map_cons, List.map_nil, List.getD_cons_zero, List.getD_cons_succ, List.set_cons_zero, List.set_cons_succ, List.length_cons, List.length_nil, List.cons_append, List.nil_append, List.append_nil, List.filter_cons, List.filter_nil, List.isEmpty_nil, List.isEmpty_cons, Option.map_some, Option.map_none, Option.bind_some, Option.isNone_none, Option.isNone_some, Bool.false_eq_true, if_true, if_false, ite_true, ite_false, Bool.and_true, Bool.true_and, Bool.and_false, Bool.false_and, and_true, true_and, and_self, not_true_eq_false, not_false_eq_true, imp_self, forall_const, true_imp_iff, implies_true, decide_true, decide_false, cond_true, cond_false, reduceCtorEq, List.find?_cons, List.find?_nil, beq_self_eq_true, List.drop_zero, List.take_zero, List.drop_succ_cons, List.take_succ_cons, Nat.reduceAdd, Nat.reduceSub, Nat.reduceMul, Nat.reduceLT, Nat.reduceLeDiff, Nat.reduceEqDiff, Nat.reduceBEq, Nat.reduceBNe, List.reduceReplicate, reduceIte, retQ, finish, resAll, resAV, freshIs, stepD, runD, okD, meet, Eff.tch, reach, restr, inAll, effIn, headOf, sets, tops, puts, put1, keep, le', autoρ, leA, leH, ρH, List.take_succ_cons, List.take_zero, tidy, renB, rens, ren1, asle, avles, avle, hple, oble, uniq, sub, locOk, assoc, disj, List.all_cons, List.all_nil, List.any_cons, List.any_nil, List.contains_nil, List.contains_cons, List.flatMap_cons, List.flatMap_nil, List.mem_cons, List.not_mem_nil, or_false, false_or, or_true, true_or, or_self, Bool.or_false, Bool.or_true, Bool.true_or, Bool.false_or, Bool.not_true, Bool.not_false, List.take_nil, List.take_succ_cons, List.drop_nil, decide_true, eq_self, Option.some.injEq, false_and, and_false, Nat.reduceLT, ↓reduceIte]
          simp only [eqf, eqt, bif_and, bif_or, Bool.not_not, Bool.not_eq_true', Bool.not_eq_false', Bool.or_eq_true, Bool.or_eq_false_iff, Bool.and_eq_true, Bool.and_eq_false_imp, decide_eq_true_eq, decide_eq_false_iff_not, bne_iff_ne, bne_eq_false_iff_eq, beq_iff_eq, beq_eq_false_iff_ne, ne_eq, Int.toNat_natCast, Int.not_lt, Int.not_le, ge_iff_le, gt_iff_lt, Int.natCast_nonneg, Int.ofNat_lt, imp_self, and_true, true_and, implies_true, Int.ofNat_inj, and_self, Classical.not_not]
          dsimp only [Ty.den] at *
          have hsl := seen_le (toArc (f, t, L, H)) (l.map toObs) k h24'
          refine ⟨fun hkl => ?_, fun hkl => ?_⟩
          · have ho : (toObs (l.getD k (0, 0))).okB = true := by
              rw [← getD_map hkl]
              rw [List.all_eq_true] at hok
              have hkl' : k < (l.map toObs).length := by simpa using hkl
              rw [List.getD_eq_getElem?_getD, List.getElem?_eq_getElem hkl']
              exact hok _ (List.getElem_mem hkl')
            have hot := okB_true ho
            have hst := seen_take (a := toArc (f, t, L, H)) hkl h
            refine ⟨⟨hkl, ⟨hot.1, hot.2.1⟩, fun e => ⟨e, hkl⟩, fun e => ⟨e, hr, ho⟩⟩, fun e => ?_, fun e => ?_⟩
            · have c : ¬ (hour (l.getD k (0, 0)).1 = h ∧ insideB (toArc (f, t, L, H)) (toObs (l.getD k (0, 0))) = true) := fun q => by
                rcases e with e | e
                · exact e q.1
                · rw [q.2] at e; cases e
              rw [if_neg c, List.append_nil] at hst
              exact ⟨k + 1, by dsimp only [Ty.den] at *; omega, by omega, by rw [hst], by rw [hst], by rw [hst], i64_in _ (by dsimp only [Ty.den] at *; omega)⟩
            · rw [if_pos e] at hst
              have e1 := minL_snoc (seenAt (toArc (f, t, L, H)) ((l.map toObs).take k) h) (l.getD k (0, 0)).2
              have e2 := maxL_snoc (seenAt (toArc (f, t, L, H)) ((l.map toObs).take k) h) (l.getD k (0, 0)).2
              have e3 : (seenAt (toArc (f, t, L, H)) ((l.map toObs).take k) h ++ [(l.getD k (0, 0)).2]).length = (seenAt (toArc (f, t, L, H)) ((l.map toObs).take k) h).length + 1 := by simp
              refine ⟨fun e0 => ⟨hkl, hkl, hkl, hkl, k + 1, by dsimp only [Ty.den] at *; omega, by omega, ?_, ?_, ?_, i64_in _ (by dsimp only [Ty.den] at *; omega)⟩, fun e0 => ⟨hkl, hkl, k + 1, by dsimp only [Ty.den] at *; omega, by omega, ?_, ?_, ?_, i64_in _ (by dsimp only [Ty.den] at *; omega)⟩⟩
              · rw [hst, e3, i64_in _ (by dsimp only [Ty.den] at *; omega)]; omega
              · rw [hst, e1, if_pos (Int.ofNat_inj.1 e0)]; split <;> rfl
              · rw [hst, e2, if_pos (Int.ofNat_inj.1 e0)]; split <;> rfl
              · rw [hst, e3, i64_in _ (by dsimp only [Ty.den] at *; omega)]; omega
              · rw [hst, e1, if_neg fun q => e0 (Int.ofNat_inj.2 q)]
              · rw [hst, e2, if_neg fun q => e0 (Int.ofNat_inj.2 q)]
          · have eall : List.take k (l.map toObs) = l.map toObs := List.take_of_length_le (by rw [List.length_map]; exact Nat.le_of_not_lt hkl)
            rw [eall]
            rw [upTo_len, upTo_len, eL, eH]
            refine ⟨fun e5 => ?_, fun e5 => ?_⟩
            · have e5' : 5 ≤ (seenAt (toArc (f, t, L, H)) (l.map toObs) h).length := by omega
              have m1 := seen_ok hok (minL_mem (xs := seenAt (toArc (f, t, L, H)) (l.map toObs) h) (by omega))
              have m2 := seen_ok hok (maxL_mem (xs := seenAt (toArc (f, t, L, H)) (l.map toObs) h) (by omega))
              refine ⟨⟨h24', h24'⟩, ⟨h24', h24'⟩, h + 1, by omega, by omega, i64_in _ (by omega), ?_, ?_⟩
              · rw [← upTo_set _ _ h24', i64_in _ (by omega)]
                congr 1
                unfold highAt
                rw [if_pos e5']
              · rw [← upTo_set _ _ h24', i64_in _ (by omega)]
                congr 1
                unfold lowAt
                rw [if_pos e5']
            · have e5' : ¬ 5 ≤ (seenAt (toArc (f, t, L, H)) (l.map toObs) h).length := by omega
              exact ⟨h + 1, by omega, by omega, i64_in _ (by omega), (upTo_same _ _ (by unfold highAt; rw [if_neg e5'])).symm, (upTo_same _ _ (by unfold lowAt; rw [if_neg e5'])).symm⟩
      · obtain rfl : h = 24 := by omega
        refine XW_for2 15 x11_2d [0, 1, 2, 19, 23, 25, 30] Nat (fun k => [(13, .own 30), (14, .val (.int .i64) (k : Int))]) (fun k => [(30, .row 3 (.int .i64) (straysOf (toArc (f, t, L, H)) ((l.map toObs).take k)))]) (fun k => k ≤ l.length) (fun k => l.length - k) 0 ?_ ?_ ?_
        · simp only [x11_2d, ↓xwp_seq, ↓xwp_skip, ↓xwp_ret, ↓xwp_exit, ↓xwp_block, ↓xwp_loop, ↓xwp_reg, ↓xwp_cond, ↓thn_n, ↓thn_e, ↓thn_r, ↓XQ.seq, ↓XQ.blk, List.getElem?_cons_succ, List.getElem?_cons_zero, List.getElem?_nil, runR, runT, stepT, gop, gcond, opg, pickx, boolOf, XOp.isPick, opx, stripL, strip, pur, XO.gv, XA.av, setT, appL, killL, effOk, ltAll, AV.locs, AV.locsL, OB.locs, look, enter, resAVs, binx, intBin, eqx, lenx, condOf, loadx, partOf, storex, splice, cellsOf, scatter, zeroAV, fieldx, faddrx, iaddrx, bounds, avInt, avIntK, avBool, extx, slicex, fillx, rowx, callx, callvx, fn1x, fn2x, findEnt, rdL, rdA, rdClo, rdCap, rd, rd1, rdAgg, rdPtr, rdc, rd1c, ofCst, proj, upd, appendx, srcx, freshEff, minx, Ty.isSt, Ty.size, Ty.scalar, Ty.dflt, cast?_self, List.map_cons, List.map_nil, List.getD_cons_zero, List.getD_cons_succ, List.set_cons_zero, List.set_cons_succ, List.length_cons, List.length_nil, List.cons_append, List.nil_append, List.append_nil, List.filter_cons, List.filter_nil, List.isEmpty_nil, List.isEmpty_cons, Option.map_some, Option.map_none, Option.bind_some, Option.isNone_none, Option.isNone_some, Bool.false_eq_true, if_true, if_false, ite_true, ite_false, Bool.and_true, Bool.true_and, Bool.and_false, Bool.false_and, and_true, true_and, and_self, not_true_eq_false, not_false_eq_true, imp_self, forall_const, true_imp_iff, implies_true, decide_true, decide_false, cond_true, cond_false, reduceCtorEq, List.find?_cons, List.find?_nil, beq_self_eq_true, List.drop_zero, List.take_zero, List.drop_succ_cons, List.take_succ_cons, Nat.reduceAdd, Nat.reduceSub, Nat.reduceMul, Nat.reduceLT, Nat.reduceLeDiff, Nat.reduceEqDiff, Nat.reduceBEq, Nat.reduceBNe, List.reduceReplicate, reduceIte, retQ, finish, resAll, resAV, freshIs, stepD, runD, okD, meet, Eff.tch, reach, restr, inAll, effIn, headOf, sets, tops, puts, put1, keep, le', autoρ, leA, leH, ρH, List.take_succ_cons, List.take_zero, tidy, renB, rens, ren1, asle, avles, avle, hple, oble, uniq, sub, locOk, assoc, disj, List.all_cons, List.all_nil, List.any_cons, List.any_nil, List.contains_nil, List.contains_cons, List.flatMap_cons, List.flatMap_nil, List.mem_cons, List.not_mem_nil, or_false, false_or, or_true, true_or, or_self, Bool.or_false, Bool.or_true, Bool.true_or, Bool.false_or, Bool.not_true, Bool.not_false, List.take_nil, List.take_succ_cons, List.drop_nil, decide_true, eq_self, Option.some.injEq, false_and, and_false, Nat.reduceLT, ↓reduceIte]
          exact ⟨rfl, rfl⟩
        · exact Nat.zero_le _
        · intro k hk
          dsimp only [x11_2, x11_2d]; simp only [↓xwp_seq, ↓xwp_skip, ↓xwp_ret, ↓xwp_exit, ↓xwp_block, ↓xwp_loop, ↓xwp_reg, ↓xwp_cond, ↓thn_n, ↓thn_e, ↓thn_r, ↓XQ.seq, ↓XQ.blk, List.getElem?_cons_succ, List.getElem?_cons_zero, List.getElem?_nil, runR, runT, stepT, gop, gcond, opg, pickx, boolOf, XOp.isPick, opx, stripL, strip, pur, XO.gv, XA.av, setT, appL, killL, effOk, ltAll, AV.locs, AV.locsL, OB.locs, look, enter, resAVs, binx, intBin, eqx, lenx, condOf, loadx, partOf, storex, splice, cellsOf, scatter, zeroAV, fieldx, faddrx, iaddrx, bounds, avInt, avIntK, avBool, extx, slicex, fillx, rowx, callx, callvx, fn1x, fn2x, findEnt, rdL, rdA, rdClo, rdCap, rd, rd1, rdAgg, rdPtr, rdc, rd1c, ofCst, proj, upd, appendx, srcx, freshEff, minx, Ty.isSt, Ty.size, Ty.scalar, Ty.dflt, cast?_self, List.map_cons, List.map_nil, List.getD_cons_zero, List.getD_cons_succ, List.set_cons_zero, List.set_cons_succ, List.length_cons, List.length_nil, List.cons_append, List.nil_append, List.append_nil, List.filter_cons, List.filter_nil, List.isEmpty_nil, List.isEmpty_cons, Option.map_some, Option.map_none, Option.bind_some, Option.isNone_none, Option.isNone_some, Bool.false_eq_true, if_true, if_false, ite_true, ite_false, Bool.and_true, Bool.true_and, Bool.and_false, Bool.false_and, and_true, true_and, and_self, not_true_eq_false, not_false_eq_true, imp_self, forall_const, true_imp_iff, implies_true, decide_true, decide_false, cond_true, cond_false, reduceCtorEq, List.find?_cons, List.find?_nil, beq_self_eq_true, List.drop_zero, List.take_zero, List.drop_succ_cons, List.take_succ_cons, Nat.reduceAdd, Nat.reduceSub, Nat.reduceMul, Nat.reduceLT, Nat.reduceLeDiff, Nat.reduceEqDiff, Nat.reduceBEq, Nat.reduceBNe, List.reduceReplicate, reduceIte, retQ, finish, resAll, resAV, freshIs, stepD, runD, okD, meet, Eff.tch, reach, restr, inAll, effIn, headOf, sets, tops, puts, put1, keep, le', autoρ, leA, leH, ρH, List.take_succ_cons, List.take_zero, tidy, renB, rens, ren1, asle, avles, avle, hple, oble, uniq, sub, locOk, assoc, disj, List.all_cons, List.all_nil, List.any_cons, List.any_nil, List.contains_nil, List.contains_cons, List.flatMap_cons, List.flatMap_nil, List.mem_cons, List.not_mem_nil, or_false, false_or, or_true, true_or, or_self, Bool.or_false, Bool.or_true, Bool.true_or, Bool.false_or, Bool.not_true, Bool.not_false, List.take_nil, List.take_succ_cons, List.drop_nil, decide_true, eq_self, Option.some.injEq, false_and, and_false, Nat.reduceLT, ↓reduceIte]
          simp only [eqf, eqt, bif_and, bif_or, Bool.not_not, Bool.not_eq_true', Bool.not_eq_false', Bool.or_eq_true, Bool.or_eq_false_iff, Bool.and_eq_true, Bool.and_eq_false_imp, decide_eq_true_eq, decide_eq_false_iff_not, bne_iff_ne, bne_eq_false_iff_eq, beq_iff_eq, beq_eq_false_iff_ne, ne_eq, Int.toNat_natCast, Int.not_lt, Int.not_le, ge_iff_le, gt_iff_lt, Int.natCast_nonneg, Int.ofNat_lt, imp_self, and_true, true_and, implies_true, Int.ofNat_inj, and_self, Classical.not_not]
          dsimp only [Ty.den] at *
          refine ⟨fun hkl => ?_, fun hkl => ?_⟩
          · have hkl' : k < (l.map toObs).length := by simpa using hkl
            have ho : (toObs (l.getD k (0, 0))).okB = true := by
              rw [← getD_map hkl]
              rw [List.all_eq_true] at hok
              rw [List.getD_eq_getElem?_getD, List.getElem?_eq_getElem hkl']
              exact hok _ (List.getElem_mem hkl')
            have hst := strays_take (a := toArc (f, t, L, H)) hkl
            have hsl : (straysOf (toArc (f, t, L, H)) ((l.map toObs).take k)).length ≤ k := by
              have := rowsAt_len (toArc (f, t, L, H)) (l.map toObs) k 24
              simpa [rowsAt] using this
            refine ⟨⟨hkl, hr, ho⟩, fun e => ⟨by omega, k + 1, by omega, by omega, i64_in _ (by omega), ?_⟩, fun e => ⟨k + 1, by omega, by omega, i64_in _ (by omega), ?_⟩⟩
            · rw [hst, e]; rfl
            · rw [hst, e]; simp
          · have eall : List.take k (l.map toObs) = l.map toObs := List.take_of_length_le (by rw [List.length_map]; exact Nat.le_of_not_lt hkl)
            rw [eall]
            unfold tightF
            rw [if_pos (by rw [h1, h2]; rfl)]
            rfl
end T
end Go.Proofs.Ytaffcpdkmhpckaa
