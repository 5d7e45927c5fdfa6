/- The examples of the documentation, and LabelTells, by the typed walk. -/
import Derived.Test.YtcjgofcfinbpeaaL12
namespace Go.Proofs.Ytcjgofcfinbpeaa
set_option linter.unusedVariables false
set_option linter.unusedSimpArgs false
open Go.RowKit Go.IntWalk
namespace T
def entCheck12 : Ent := ⟨35, .cons (.int .i64) (.cons (.int .i64) .nil), (.int .i64), false, none, fun _ => True, fun x => checkF 2 twoD 0 100 true [(100, -1), (x.1, x.2.1)]⟩
def csCk : List Ent := [entTwo12, entCheckP] theorem hcsCk (f : FuncId) : findEnt csCk f = findEnt [entTwo12, entCheckP] f := rfl
theorem conCheck12 : Con Try.prog entCheck12 := by
  refine con_is (C := csCk) x35 (by kernel_rfl) (by simp [csCk, conTwo12, conCheckP]) fun x hr hf => ?_
  obtain ⟨(t : Int), (b : Int), _⟩ := x
  dsimp only [entCheck12, x35]; simp only [↓hcsCk, entTwo12, entCheckP, mapOf, keyOf', ↓leQ_mk, ↓xwp_icall, ↓backQ_n, ↓backQ_r, ↓backQ_e, afterI, entI, exI, oneAV, keepI, XO.reads, XA.slot, eqsx, eqd,  List.drop_zero, List.take_length, Int.toNat_zero, Int.toNat_natCast, List.set_cons_zero, List.set_cons_succ, ↓xwp_clean, tmG, cleanS, headT, numb, rensT, tmle, fastD, runR_true, runR_false, quiet, Eff.tch, ↓xwp_seq, ↓xwp_skip, ↓xwp_ret, ↓xwp_exit, ↓xwp_block, ↓xwp_loop, ↓xwp_reg, ↓xwp_cond, ↓thn_n, ↓thn_e, ↓thn_r, ↓XQ.seq, ↓XQ.blk, List.getElem?_cons_succ, List.getElem?_cons_zero, List.getElem?_nil, runT, stepT, gop, gcond, opg, pickx, boolOf, XOp.isPick, opx, stripL, strip, pur, XO.gv, XA.av, setT, appL, killL, effOk, ltAll, AV.locs, AV.locsL, OB.locs, look, enter, resAVs, binx, intBin, eqx, lenx, condOf, loadx, partOf, storex, splice, cellsOf, scatter, zeroAV, fieldx, faddrx, iaddrx, bounds, avInt, avIntK, avBool, extx, slicex, fillx, rowx, callx, callvx, fn1x, fn2x, findEnt, rdL, rdA, rdClo, rdCap, rd, rd1, rdAgg, rdPtr, rdc, rd1c, ofCst, proj, upd, appendx, srcx, freshEff, minx, Ty.isSt, Ty.size, Ty.scalar, Ty.dflt, cast?_self, List.map_cons, List.map_nil, List.getD_cons_zero, List.getD_cons_succ, List.length_cons, List.length_nil, List.cons_append, List.nil_append, List.append_nil, List.filter_cons, List.filter_nil, List.isEmpty_nil, List.isEmpty_cons, Option.map_some, Option.map_none, Option.bind_some, Option.isNone_none, Option.isNone_some, Bool.false_eq_true, if_true, if_false, ite_true, ite_false, Bool.and_true, Bool.true_and, Bool.and_false, Bool.false_and, and_true, true_and, and_self, not_true_eq_false, not_false_eq_true, imp_self, forall_const, true_imp_iff, implies_true, decide_true, decide_false, cond_true, cond_false, reduceCtorEq, List.find?_cons, List.find?_nil, beq_self_eq_true, List.drop_zero, List.take_zero, List.drop_succ_cons, List.take_succ_cons, Nat.reduceAdd, Nat.reduceSub, Nat.reduceMul, Nat.reduceLT, Nat.reduceLeDiff, Nat.reduceEqDiff, Nat.reduceBEq, Nat.reduceBNe, List.reduceReplicate, reduceIte, retQ, finish, resAll, resAV, freshIs, stepD, runD, okD, meet, reach, restr, inAll, effIn, headOf, puts, put1, keep, le', autoρ, tidy, renB, rens, ren1, asle, avles, avle, hple, oble, uniq, sub, locOk, assoc, disj, List.all_cons, List.all_nil, List.any_cons, List.any_nil, List.contains_nil, List.contains_cons, List.flatMap_cons, List.flatMap_nil, List.mem_cons, List.not_mem_nil, or_false, false_or, or_true, true_or, or_self, Bool.or_false, Bool.or_true, Bool.true_or, Bool.false_or, Bool.not_true, Bool.not_false, List.take_nil, List.drop_nil, eq_self, Option.some.injEq, false_and, and_false, ↓reduceIte]
  try simp only [reduceCtorEq, if_true, if_false, decide_true, decide_false, Bool.false_eq_true, true_imp_iff, not_true_eq_false, not_false_eq_true, false_imp_iff, and_false, false_and, or_false, false_or, eqf, eqt, bif_and, bif_or, Bool.not_not, Bool.not_eq_true', Bool.not_eq_false', Bool.or_eq_true, Bool.or_eq_false_iff, Bool.and_eq_true, Bool.and_eq_false_imp, decide_eq_true_eq, decide_eq_false_iff_not, bne_iff_ne, bne_eq_false_iff_eq, beq_iff_eq, beq_eq_false_iff_ne, ne_eq, Int.toNat_natCast, Int.not_lt, Int.not_le, ge_iff_le, gt_iff_lt, Int.natCast_nonneg, Int.ofNat_lt, imp_self, and_true, true_and, implies_true, Int.ofNat_inj, and_self, Classical.not_not]
  try trace_state
theorem tk_rep (f t lo hi : Int) (b : Bool) (x : Int) : (Arc.mk f t (List.replicate 24 lo) (List.replicate 24 hi)).tk b x = if b then hi else lo := by
  unfold Arc.tk Arc.row
  have := hour_lt x
  cases b <;> simp only [Bool.false_eq_true, if_false, if_true, List.getD_eq_getElem?_getD, List.getElem?_replicate, if_pos this] <;> rfl
theorem pass_rep {f t lo hi : Int} (hr : (Arc.mk f t (List.replicate 24 lo) (List.replicate 24 hi)).right) (b : Bool) {x : Int} (h : isTime x) : (Arc.mk f t (List.replicate 24 lo) (List.replicate 24 hi)).passF b x = x + if b then hi else lo := by
  rw [Arc.passF_yes _ hr h]
  refine Arc.pass_eq h.2 ⟨⟨x, Int.le_refl _, h.2, by rw [tk_rep]⟩, fun v v1 v2 => ?_⟩
  rw [tk_rep]; omega
def a0D : DArc := (0, 1, List.replicate 24 10, List.replicate 24 20)
def a1D : DArc := (0, 1, List.replicate 24 15, List.replicate 24 15)
theorem r0 : (toArc a0D).right := by decide
theorem r1 : (toArc a1D).right := by decide
theorem p0 (b : Bool) : (toArc a0D).passF b 100 = 100 + if b then 20 else 10 := pass_rep r0 b (by decide)
theorem p1 (b : Bool) : (toArc a1D).passF b 100 = 100 + if b then 15 else 15 := pass_rep r1 b (by decide)
theorem check2 (a0 a1 : DArc) (h0 : a0.1 = 0) (h0' : a0.2.1 = 1) (h1 : a1.1 = 0) (h1' : a1.2.1 = 1) (hr : rightR 2 [a0, a1] = true) (p0 : (toArc a0).passF true 100 = 120) (p1 : (toArc a1).passF true 100 = 115) :
    checkF 2 [a0, a1] 0 100 true [(100, -1), (115, 1)] = 0 ∧ checkF 2 [a0, a1] 0 100 true [(100, -1), (120, 0)] = 23 ∧ checkF 2 [a0, a1] 0 100 true [(100, -1), (-1, -1)] = 23 ∧ checkF 2 [a0, a1] 0 100 true [] = 2 := by
  have t100 : timeB 100 = true := by decide
  have t115 : timeB 115 = true := by decide
  have t120 : timeB 120 = true := by decide
  simp [checkF, hr, soundF, nodeOk, homeOk, backN, byOk, nextN, tightOk, List.range, List.range.loop, h0, h0', h1, h1', p0, p1, t100, t115, t120]
theorem rr2 : rightR 2 [a0D, a1D] = true := by kernel_rfl
theorem twoD_is : twoD = [a0D, a1D] := rfl
theorem v1 : checkF 2 twoD 0 100 true [(100, -1), (115, 1)] = 0 := (check2 a0D a1D rfl rfl rfl rfl rr2 (p0 true) (p1 true)).1
theorem v2 : checkF 2 twoD 0 100 true [(100, -1), (120, 0)] = 23 := (check2 a0D a1D rfl rfl rfl rfl rr2 (p0 true) (p1 true)).2.1
theorem v3 : checkF 2 twoD 0 100 true [(100, -1), (-1, -1)] = 23 := (check2 a0D a1D rfl rfl rfl rfl rr2 (p0 true) (p1 true)).2.2.1
theorem v6 : checkF 2 twoD 0 100 true [] = 2 := (check2 a0D a1D rfl rfl rfl rfl rr2 (p0 true) (p1 true)).2.2.2
theorem span1 {A : List DArc} {a : DArc} {l h : Int} (ha : A.getD 0 (0, 0, [], []) = a) (hr : (A.any fun a => !(toArc a).rightB) = false) (hl : A.length = 2) (pl : (toArc a).passF false 100 = l) (ph : (toArc a).passF true 100 = h) (hh : h ≤ 1048576) : spanF A [0] 100 = (l, h, 0, ()) := by
  have hg : goWay A [0] 100 1 = some (l, h) := by
    unfold goWay
    rw [show goWay A [0] 100 0 = some (100, 100) from rfl]
    dsimp only
    rw [show ([0] : List Int).getD 0 0 = 0 from rfl, show (0 : Int).toNat = 0 from rfl, ha, pl, ph, if_neg (by omega)]
  have ho : okWay A [0] 1 = true := by
    unfold okWay
    rw [show okWay A [0] 0 = true from rfl, show ([0] : List Int).getD 0 0 = 0 from rfl, hl]; simp
  have hn : ¬ (20000 < A.length ∨ 2000 < ([0] : List Int).length ∨ ¬ timeB 100 = true ∨ (A.any fun a => !(T.toArc a).rightB) = true ∨ okWay A [0] ([0] : List Int).length = false) := by
    rw [hl, hr, show ([0] : List Int).length = 1 from rfl, ho, show timeB 100 = true from by decide]
    decide
  unfold spanF
  rw [if_neg hn, show ([0] : List Int).length = 1 from rfl, hg]
theorem any2 : (twoD.any fun a => !(toArc a).rightB) = false := by
  rw [twoD_is]
  have e0 : (toArc a0D).rightB = true := decide_eq_true r0
  have e1 : (toArc a1D).rightB = true := decide_eq_true r1
  simp [e0, e1]
theorem v4 : spanF twoD [0] 100 = (110, 120, 0, ()) := span1 (a := a0D) rfl any2 rfl (p0 false) (p0 true) (by decide)
theorem v5 : spanF twoD [2] 100 = (0, 0, 1, ()) := by
  unfold spanF
  rw [if_pos]
  exact .inr (.inr (.inr (.inr (by decide))))
def entSmall12 : Ent := ⟨12, .nil, .bool, false, none, fun _ => True, fun _ => true⟩
def csSm : List Ent := [entTwo12, entCheckP, entCheck12, entSpan] theorem hcsSm (f : FuncId) : findEnt csSm f = findEnt [entTwo12, entCheckP, entCheck12, entSpan] f := rfl
theorem conSmall12 : Con Try.prog entSmall12 := by
  refine con_is (C := csSm) x12 (by kernel_rfl) (by simp [csSm, conTwo12, conCheckP, conCheck12, conSpan]) fun x hr hf => ?_
  dsimp only [entSmall12, x12]; simp only [v1, v2, v3, v4, v5, v6, ↓hcsSm, entTwo12, entCheckP, entCheck12, entSpan, mapOf, keyOf', ↓leQ_mk, ↓xwp_icall, ↓backQ_n, ↓backQ_r, ↓backQ_e, afterI, entI, exI, oneAV, keepI, XO.reads, XA.slot, eqsx, eqd,  List.drop_zero, List.take_length, Int.toNat_zero, Int.toNat_natCast, List.set_cons_zero, List.set_cons_succ, ↓xwp_clean, tmG, cleanS, headT, numb, rensT, tmle, fastD, runR_true, runR_false, quiet, Eff.tch, ↓xwp_seq, ↓xwp_skip, ↓xwp_ret, ↓xwp_exit, ↓xwp_block, ↓xwp_loop, ↓xwp_reg, ↓xwp_cond, ↓thn_n, ↓thn_e, ↓thn_r, ↓XQ.seq, ↓XQ.blk, List.getElem?_cons_succ, List.getElem?_cons_zero, List.getElem?_nil, runT, stepT, gop, gcond, opg, pickx, boolOf, XOp.isPick, opx, stripL, strip, pur, XO.gv, XA.av, setT, appL, killL, effOk, ltAll, AV.locs, AV.locsL, OB.locs, look, enter, resAVs, binx, intBin, eqx, lenx, condOf, loadx, partOf, storex, splice, cellsOf, scatter, zeroAV, fieldx, faddrx, iaddrx, bounds, avInt, avIntK, avBool, extx, slicex, fillx, rowx, callx, callvx, fn1x, fn2x, findEnt, rdL, rdA, rdClo, rdCap, rd, rd1, rdAgg, rdPtr, rdc, rd1c, ofCst, proj, upd, appendx, srcx, freshEff, minx, Ty.isSt, Ty.size, Ty.scalar, Ty.dflt, cast?_self, List.map_cons, List.map_nil, List.getD_cons_zero, List.getD_cons_succ, List.length_cons, List.length_nil, List.cons_append, List.nil_append, List.append_nil, List.filter_cons, List.filter_nil, List.isEmpty_nil, List.isEmpty_cons, Option.map_some, Option.map_none, Option.bind_some, Option.isNone_none, Option.isNone_some, Bool.false_eq_true, if_true, if_false, ite_true, ite_false, Bool.and_true, Bool.true_and, Bool.and_false, Bool.false_and, and_true, true_and, and_self, not_true_eq_false, not_false_eq_true, imp_self, forall_const, true_imp_iff, implies_true, decide_true, decide_false, cond_true, cond_false, reduceCtorEq, List.find?_cons, List.find?_nil, beq_self_eq_true, List.drop_zero, List.take_zero, List.drop_succ_cons, List.take_succ_cons, Nat.reduceAdd, Nat.reduceSub, Nat.reduceMul, Nat.reduceLT, Nat.reduceLeDiff, Nat.reduceEqDiff, Nat.reduceBEq, Nat.reduceBNe, List.reduceReplicate, reduceIte, retQ, finish, resAll, resAV, freshIs, stepD, runD, okD, meet, reach, restr, inAll, effIn, headOf, puts, put1, keep, le', autoρ, tidy, renB, rens, ren1, asle, avles, avle, hple, oble, uniq, sub, locOk, assoc, disj, List.all_cons, List.all_nil, List.any_cons, List.any_nil, List.contains_nil, List.contains_cons, List.flatMap_cons, List.flatMap_nil, List.mem_cons, List.not_mem_nil, or_false, false_or, or_true, true_or, or_self, Bool.or_false, Bool.or_true, Bool.true_or, Bool.false_or, Bool.not_true, Bool.not_false, List.take_nil, List.drop_nil, eq_self, Option.some.injEq, false_and, and_false, ↓reduceIte]
  try simp only [reduceCtorEq, if_true, if_false, decide_true, decide_false, Bool.false_eq_true, true_imp_iff, not_true_eq_false, not_false_eq_true, false_imp_iff, and_false, false_and, or_false, false_or, eqf, eqt, bif_and, bif_or, Bool.not_not, Bool.not_eq_true', Bool.not_eq_false', Bool.or_eq_true, Bool.or_eq_false_iff, Bool.and_eq_true, Bool.and_eq_false_imp, decide_eq_true_eq, decide_eq_false_iff_not, bne_iff_ne, bne_eq_false_iff_eq, beq_iff_eq, beq_eq_false_iff_ne, ne_eq, Int.toNat_natCast, Int.not_lt, Int.not_le, ge_iff_le, gt_iff_lt, Int.natCast_nonneg, Int.ofNat_lt, imp_self, and_true, true_and, implies_true, Int.ofNat_inj, and_self, Classical.not_not]
  try trace_state
def entTells12 : Ent := ⟨3, .cons (.int .i64) (.cons (.sl (.st (.cons (.int .i64) (.cons (.int .i64) (.cons (.sl (.int .i64)) (.sl (.int .i64))))))) (.cons (.int .i64) (.cons (.int .i64) (.cons .bool (.cons (.sl (.st (.cons (.int .i64) (.int .i64)))) (.cons (.sl (.int .i64)) .nil)))))), .bool, false, none, fun _ => True, fun _ => true⟩
def csTe : List Ent := [entSmall12, entFew12, entSpan, entRSpan, entCheckP, entCheckR] theorem hcsTe (f : FuncId) : findEnt csTe f = findEnt [entSmall12, entFew12, entSpan, entRSpan, entCheckP, entCheckR] f := rfl
theorem conTells12 : Con Try.prog entTells12 := by
  refine con_is (C := csTe) x3 (by kernel_rfl) (by simp [csTe, conSmall12, conFew12, conSpan, conRSpan, conCheckP, conCheckR]) fun x hr hf => ?_
  obtain ⟨(n : Int), (A : List DArc), (src : Int), (start : Int), (hi : Bool), (L : List DLab), (way : List Int), _⟩ := x
  dsimp only [entTells12, x3]; simp only [↓hcsTe, entSmall12, entFew12, entSpan, entRSpan, entCheckP, entCheckR, mapOf, keyOf', ↓leQ_mk, ↓xwp_icall, ↓backQ_n, ↓backQ_r, ↓backQ_e, afterI, entI, exI, oneAV, keepI, XO.reads, XA.slot, eqsx, eqd,  List.drop_zero, List.take_length, Int.toNat_zero, Int.toNat_natCast, List.set_cons_zero, List.set_cons_succ, ↓xwp_clean, tmG, cleanS, headT, numb, rensT, tmle, fastD, runR_true, runR_false, quiet, Eff.tch, ↓xwp_seq, ↓xwp_skip, ↓xwp_ret, ↓xwp_exit, ↓xwp_block, ↓xwp_loop, ↓xwp_reg, ↓xwp_cond, ↓thn_n, ↓thn_e, ↓thn_r, ↓XQ.seq, ↓XQ.blk, List.getElem?_cons_succ, List.getElem?_cons_zero, List.getElem?_nil, runT, stepT, gop, gcond, opg, pickx, boolOf, XOp.isPick, opx, stripL, strip, pur, XO.gv, XA.av, setT, appL, killL, effOk, ltAll, AV.locs, AV.locsL, OB.locs, look, enter, resAVs, binx, intBin, eqx, lenx, condOf, loadx, partOf, storex, splice, cellsOf, scatter, zeroAV, fieldx, faddrx, iaddrx, bounds, avInt, avIntK, avBool, extx, slicex, fillx, rowx, callx, callvx, fn1x, fn2x, findEnt, rdL, rdA, rdClo, rdCap, rd, rd1, rdAgg, rdPtr, rdc, rd1c, ofCst, proj, upd, appendx, srcx, freshEff, minx, Ty.isSt, Ty.size, Ty.scalar, Ty.dflt, cast?_self, List.map_cons, List.map_nil, List.getD_cons_zero, List.getD_cons_succ, List.length_cons, List.length_nil, List.cons_append, List.nil_append, List.append_nil, List.filter_cons, List.filter_nil, List.isEmpty_nil, List.isEmpty_cons, Option.map_some, Option.map_none, Option.bind_some, Option.isNone_none, Option.isNone_some, Bool.false_eq_true, if_true, if_false, ite_true, ite_false, Bool.and_true, Bool.true_and, Bool.and_false, Bool.false_and, and_true, true_and, and_self, not_true_eq_false, not_false_eq_true, imp_self, forall_const, true_imp_iff, implies_true, decide_true, decide_false, cond_true, cond_false, reduceCtorEq, List.find?_cons, List.find?_nil, beq_self_eq_true, List.drop_zero, List.take_zero, List.drop_succ_cons, List.take_succ_cons, Nat.reduceAdd, Nat.reduceSub, Nat.reduceMul, Nat.reduceLT, Nat.reduceLeDiff, Nat.reduceEqDiff, Nat.reduceBEq, Nat.reduceBNe, List.reduceReplicate, reduceIte, retQ, finish, resAll, resAV, freshIs, stepD, runD, okD, meet, reach, restr, inAll, effIn, headOf, puts, put1, keep, le', autoρ, tidy, renB, rens, ren1, asle, avles, avle, hple, oble, uniq, sub, locOk, assoc, disj, List.all_cons, List.all_nil, List.any_cons, List.any_nil, List.contains_nil, List.contains_cons, List.flatMap_cons, List.flatMap_nil, List.mem_cons, List.not_mem_nil, or_false, false_or, or_true, true_or, or_self, Bool.or_false, Bool.or_true, Bool.true_or, Bool.false_or, Bool.not_true, Bool.not_false, List.take_nil, List.drop_nil, eq_self, Option.some.injEq, false_and, and_false, ↓reduceIte]
  try simp only [reduceCtorEq, if_true, if_false, decide_true, decide_false, Bool.false_eq_true, true_imp_iff, not_true_eq_false, not_false_eq_true, false_imp_iff, and_false, false_and, or_false, false_or, eqf, eqt, bif_and, bif_or, Bool.not_not, Bool.not_eq_true', Bool.not_eq_false', Bool.or_eq_true, Bool.or_eq_false_iff, Bool.and_eq_true, Bool.and_eq_false_imp, decide_eq_true_eq, decide_eq_false_iff_not, bne_iff_ne, bne_eq_false_iff_eq, beq_iff_eq, beq_eq_false_iff_ne, ne_eq, Int.toNat_natCast, Int.not_lt, Int.not_le, ge_iff_le, gt_iff_lt, Int.natCast_nonneg, Int.ofNat_lt, imp_self, and_true, true_and, implies_true, Int.ofNat_inj, and_self, Classical.not_not]
  try trace_state
end T
end Go.Proofs.Ytcjgofcfinbpeaa
